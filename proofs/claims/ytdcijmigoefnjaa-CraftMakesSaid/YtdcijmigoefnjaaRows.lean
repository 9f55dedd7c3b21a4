/-
  No cell of these rows narrows 'for every input' (looked for: loops, veiled, ifaces, maps, wideKeys, modest, calm, conditions, laid).
  DERIVED. THE GIVEN ROWS OF THIS SEAT. 23 by the template 'for every input the law returns true; each argument reads behind the call as it read before'; 0 by the template 'total and deterministic' (their statements: YtdcijmigoefnjaaTotals.lean).
  GIVEN WITH THE SEED: the statements are not yours to turn. If you find one false, say at which input.
  Laid BY PROGRAM, IN A SANDBOX (cutbox-rows.mjs): the forced cells as the released guide's own fill.sh prints them over the translation b3aff23fdb047383… (all of the seat's roots in one cut). By AI agents, Wed Nov 11 2026. No macro, syntax, notation, axiom, sorry.
-/
import Derived.Test.YtdcijmigoefnjaaChecked
import GoSem.Claim
import GoSem.ClaimJoined
import GoSem.ClaimMapViews
import Derived.JoinedTies
import Derived.KernelRfl
namespace Go.Proofs.Ytdcijmigoefnjaa
/- THE CELL 'sum', in the pinned program and in every row, IS THE sha256 OF THE DUMP (.gsa) THAT YtdcijmigoefnjaaProg.lean LOADS. Nothing in Lean hashes anything: it is a label: what it is worth is what the hold of that sum in a sandbox is worth. -/
noncomputable def Try.pinned : Pinned := { name := "ytdcijmigoefnjaa", sum := "b3aff23fdb0473832f218a7c051ec73ad745e4a382777f4e58d792093fb34397", checked := Try.checked }
namespace Rows
def none {H : Type} : Left H := { results := [], args := [] }

/-- 'weirboxlaw03.FieldBack': WHATEVER THE INPUT: true; the input reads as it did. -/
def fieldBackSpec : ChangeSpec := { name := "fieldBack", fn := fun _ => fun
  | [d1, d2] => { results := [.lit (.bool true)], args := [d1, d2] }
  | _ => none }
def fieldBackRow : OpenClaim := { program := "ytdcijmigoefnjaa", sum := "b3aff23fdb0473832f218a7c051ec73ad745e4a382777f4e58d792093fb34397", func := "weirbox/weirboxlaw03.FieldBack", spec := "fieldBack", apart := false }
def FieldBackSaid : Prop := fieldBackRow.holds Try.pinned (OpenSpec.ofChange fieldBackSpec)

/-- ITS FALSE NEIGHBOUR: 'it returns false'. Refute it at one input. -/
def fieldBackWrong : ChangeSpec := { name := "fieldBack", fn := fun _ => fun
  | [d1, d2] => { results := [.lit (.bool false)], args := [d1, d2] }
  | _ => none }
def FieldBackWrongFalsely : Prop := fieldBackRow.holds Try.pinned (OpenSpec.ofChange fieldBackWrong)

/-- 'weirboxlaw03.FieldNeeds': WHATEVER THE INPUT: true; the input reads as it did. -/
def fieldNeedsSpec : ChangeSpec := { name := "fieldNeeds", fn := fun _ => fun
  | [d] => { results := [.lit (.bool true)], args := [d] }
  | _ => none }
def fieldNeedsRow : OpenClaim := { program := "ytdcijmigoefnjaa", sum := "b3aff23fdb0473832f218a7c051ec73ad745e4a382777f4e58d792093fb34397", func := "weirbox/weirboxlaw03.FieldNeeds", spec := "fieldNeeds", apart := false }
def FieldNeedsSaid : Prop := fieldNeedsRow.holds Try.pinned (OpenSpec.ofChange fieldNeedsSpec)

/-- ITS FALSE NEIGHBOUR: 'it returns false'. Refute it at one input. -/
def fieldNeedsWrong : ChangeSpec := { name := "fieldNeeds", fn := fun _ => fun
  | [d] => { results := [.lit (.bool false)], args := [d] }
  | _ => none }
def FieldNeedsWrongFalsely : Prop := fieldNeedsRow.holds Try.pinned (OpenSpec.ofChange fieldNeedsWrong)

/-- 'weirboxlaw04.HeaderSets': WHATEVER THE INPUT: true; the input reads as it did. -/
def headerSetsSpec : ChangeSpec := { name := "headerSets", fn := fun _ => fun
  | [d1, d2, d3, d4] => { results := [.lit (.bool true)], args := [d1, d2, d3, d4] }
  | _ => none }
def headerSetsRow : OpenClaim := { program := "ytdcijmigoefnjaa", sum := "b3aff23fdb0473832f218a7c051ec73ad745e4a382777f4e58d792093fb34397", func := "weirbox/weirboxlaw04.HeaderSets", spec := "headerSets", apart := false }
def HeaderSetsSaid : Prop := headerSetsRow.holds Try.pinned (OpenSpec.ofChange headerSetsSpec)

/-- ITS FALSE NEIGHBOUR: 'it returns false'. Refute it at one input. -/
def headerSetsWrong : ChangeSpec := { name := "headerSets", fn := fun _ => fun
  | [d1, d2, d3, d4] => { results := [.lit (.bool false)], args := [d1, d2, d3, d4] }
  | _ => none }
def HeaderSetsWrongFalsely : Prop := headerSetsRow.holds Try.pinned (OpenSpec.ofChange headerSetsWrong)

/-- 'weirboxlaw04.HeaderDiff': WHATEVER THE INPUT: true; the input reads as it did. -/
def headerDiffSpec : ChangeSpec := { name := "headerDiff", fn := fun _ => fun
  | [d1, d2] => { results := [.lit (.bool true)], args := [d1, d2] }
  | _ => none }
def headerDiffRow : OpenClaim := { program := "ytdcijmigoefnjaa", sum := "b3aff23fdb0473832f218a7c051ec73ad745e4a382777f4e58d792093fb34397", func := "weirbox/weirboxlaw04.HeaderDiff", spec := "headerDiff", apart := false }
def HeaderDiffSaid : Prop := headerDiffRow.holds Try.pinned (OpenSpec.ofChange headerDiffSpec)

/-- ITS FALSE NEIGHBOUR: 'it returns false'. Refute it at one input. -/
def headerDiffWrong : ChangeSpec := { name := "headerDiff", fn := fun _ => fun
  | [d1, d2] => { results := [.lit (.bool false)], args := [d1, d2] }
  | _ => none }
def HeaderDiffWrongFalsely : Prop := headerDiffRow.holds Try.pinned (OpenSpec.ofChange headerDiffWrong)

/-- 'weirboxlaw03.FieldTells': WHATEVER THE INPUT: true; the input reads as it did. -/
def fieldTellsSpec : ChangeSpec := { name := "fieldTells", fn := fun _ => fun
  | [d1, d2] => { results := [.lit (.bool true)], args := [d1, d2] }
  | _ => none }
def fieldTellsRow : OpenClaim := { program := "ytdcijmigoefnjaa", sum := "b3aff23fdb0473832f218a7c051ec73ad745e4a382777f4e58d792093fb34397", func := "weirbox/weirboxlaw03.FieldTells", spec := "fieldTells", unfollowed := true, recurses := true, apart := false }
def FieldTellsSaid : Prop := fieldTellsRow.holds Try.pinned (OpenSpec.ofChange fieldTellsSpec)

/-- ITS FALSE NEIGHBOUR: 'it returns false'. Refute it at one input. -/
def fieldTellsWrong : ChangeSpec := { name := "fieldTells", fn := fun _ => fun
  | [d1, d2] => { results := [.lit (.bool false)], args := [d1, d2] }
  | _ => none }
def FieldTellsWrongFalsely : Prop := fieldTellsRow.holds Try.pinned (OpenSpec.ofChange fieldTellsWrong)

/-- 'weirboxlaw04.HeaderPuts': WHATEVER THE INPUT: true; the input reads as it did. -/
def headerPutsSpec : ChangeSpec := { name := "headerPuts", fn := fun _ => fun
  | [d1, d2] => { results := [.lit (.bool true)], args := [d1, d2] }
  | _ => none }
def headerPutsRow : OpenClaim := { program := "ytdcijmigoefnjaa", sum := "b3aff23fdb0473832f218a7c051ec73ad745e4a382777f4e58d792093fb34397", func := "weirbox/weirboxlaw04.HeaderPuts", spec := "headerPuts", apart := false }
def HeaderPutsSaid : Prop := headerPutsRow.holds Try.pinned (OpenSpec.ofChange headerPutsSpec)

/-- ITS FALSE NEIGHBOUR: 'it returns false'. Refute it at one input. -/
def headerPutsWrong : ChangeSpec := { name := "headerPuts", fn := fun _ => fun
  | [d1, d2] => { results := [.lit (.bool false)], args := [d1, d2] }
  | _ => none }
def HeaderPutsWrongFalsely : Prop := headerPutsRow.holds Try.pinned (OpenSpec.ofChange headerPutsWrong)

/-- 'weirboxlaw04.HeaderBack': WHATEVER THE INPUT: true; the input reads as it did. -/
def headerBackSpec : ChangeSpec := { name := "headerBack", fn := fun _ => fun
  | [d1, d2] => { results := [.lit (.bool true)], args := [d1, d2] }
  | _ => none }
def headerBackRow : OpenClaim := { program := "ytdcijmigoefnjaa", sum := "b3aff23fdb0473832f218a7c051ec73ad745e4a382777f4e58d792093fb34397", func := "weirbox/weirboxlaw04.HeaderBack", spec := "headerBack", apart := false }
def HeaderBackSaid : Prop := headerBackRow.holds Try.pinned (OpenSpec.ofChange headerBackSpec)

/-- ITS FALSE NEIGHBOUR: 'it returns false'. Refute it at one input. -/
def headerBackWrong : ChangeSpec := { name := "headerBack", fn := fun _ => fun
  | [d1, d2] => { results := [.lit (.bool false)], args := [d1, d2] }
  | _ => none }
def HeaderBackWrongFalsely : Prop := headerBackRow.holds Try.pinned (OpenSpec.ofChange headerBackWrong)

/-- 'weirboxlaw10.OxmDecodes': WHATEVER THE INPUT: true; the input reads as it did. -/
def oxmDecodesSpec : ChangeSpec := { name := "oxmDecodes", fn := fun _ => fun
  | [d] => { results := [.lit (.bool true)], args := [d] }
  | _ => none }
def oxmDecodesRow : OpenClaim := { program := "ytdcijmigoefnjaa", sum := "b3aff23fdb0473832f218a7c051ec73ad745e4a382777f4e58d792093fb34397", func := "weirbox/weirboxlaw10.OxmDecodes", spec := "oxmDecodes", unfollowed := true, recurses := true, apart := false }
def OxmDecodesSaid : Prop := oxmDecodesRow.holds Try.pinned (OpenSpec.ofChange oxmDecodesSpec)

/-- ITS FALSE NEIGHBOUR: 'it returns false'. Refute it at one input. -/
def oxmDecodesWrong : ChangeSpec := { name := "oxmDecodes", fn := fun _ => fun
  | [d] => { results := [.lit (.bool false)], args := [d] }
  | _ => none }
def OxmDecodesWrongFalsely : Prop := oxmDecodesRow.holds Try.pinned (OpenSpec.ofChange oxmDecodesWrong)

/-- 'weirboxlaw10.OxmCounts': WHATEVER THE INPUT: true; the input reads as it did. -/
def oxmCountsSpec : ChangeSpec := { name := "oxmCounts", fn := fun _ => fun
  | [d1, d2] => { results := [.lit (.bool true)], args := [d1, d2] }
  | _ => none }
def oxmCountsRow : OpenClaim := { program := "ytdcijmigoefnjaa", sum := "b3aff23fdb0473832f218a7c051ec73ad745e4a382777f4e58d792093fb34397", func := "weirbox/weirboxlaw10.OxmCounts", spec := "oxmCounts", unfollowed := true, recurses := true, apart := false }
def OxmCountsSaid : Prop := oxmCountsRow.holds Try.pinned (OpenSpec.ofChange oxmCountsSpec)

/-- ITS FALSE NEIGHBOUR: 'it returns false'. Refute it at one input. -/
def oxmCountsWrong : ChangeSpec := { name := "oxmCounts", fn := fun _ => fun
  | [d1, d2] => { results := [.lit (.bool false)], args := [d1, d2] }
  | _ => none }
def OxmCountsWrongFalsely : Prop := oxmCountsRow.holds Try.pinned (OpenSpec.ofChange oxmCountsWrong)

/-- 'weirboxlaw45.PacketParses': WHATEVER THE INPUT: true; the input reads as it did. -/
def packetParsesSpec : ChangeSpec := { name := "packetParses", fn := fun _ => fun
  | [d1, d2] => { results := [.lit (.bool true)], args := [d1, d2] }
  | _ => none }
def packetParsesRow : OpenClaim := { program := "ytdcijmigoefnjaa", sum := "b3aff23fdb0473832f218a7c051ec73ad745e4a382777f4e58d792093fb34397", func := "weirbox/weirboxlaw45.PacketParses", spec := "packetParses", apart := false }
def PacketParsesSaid : Prop := packetParsesRow.holds Try.pinned (OpenSpec.ofChange packetParsesSpec)

/-- ITS FALSE NEIGHBOUR: 'it returns false'. Refute it at one input. -/
def packetParsesWrong : ChangeSpec := { name := "packetParses", fn := fun _ => fun
  | [d1, d2] => { results := [.lit (.bool false)], args := [d1, d2] }
  | _ => none }
def PacketParsesWrongFalsely : Prop := packetParsesRow.holds Try.pinned (OpenSpec.ofChange packetParsesWrong)

/-- 'weirboxlaw45.PacketSums': WHATEVER THE INPUT: true; the input reads as it did. -/
def packetSumsSpec : ChangeSpec := { name := "packetSums", fn := fun _ => fun
  | [d1, d2] => { results := [.lit (.bool true)], args := [d1, d2] }
  | _ => none }
def packetSumsRow : OpenClaim := { program := "ytdcijmigoefnjaa", sum := "b3aff23fdb0473832f218a7c051ec73ad745e4a382777f4e58d792093fb34397", func := "weirbox/weirboxlaw45.PacketSums", spec := "packetSums", apart := false }
def PacketSumsSaid : Prop := packetSumsRow.holds Try.pinned (OpenSpec.ofChange packetSumsSpec)

/-- ITS FALSE NEIGHBOUR: 'it returns false'. Refute it at one input. -/
def packetSumsWrong : ChangeSpec := { name := "packetSums", fn := fun _ => fun
  | [d1, d2] => { results := [.lit (.bool false)], args := [d1, d2] }
  | _ => none }
def PacketSumsWrongFalsely : Prop := packetSumsRow.holds Try.pinned (OpenSpec.ofChange packetSumsWrong)

/-- 'weirboxlaw45.PacketTail': WHATEVER THE INPUT: true; the input reads as it did. -/
def packetTailSpec : ChangeSpec := { name := "packetTail", fn := fun _ => fun
  | [d1, d2, d3] => { results := [.lit (.bool true)], args := [d1, d2, d3] }
  | _ => none }
def packetTailRow : OpenClaim := { program := "ytdcijmigoefnjaa", sum := "b3aff23fdb0473832f218a7c051ec73ad745e4a382777f4e58d792093fb34397", func := "weirbox/weirboxlaw45.PacketTail", spec := "packetTail", apart := false }
def PacketTailSaid : Prop := packetTailRow.holds Try.pinned (OpenSpec.ofChange packetTailSpec)

/-- ITS FALSE NEIGHBOUR: 'it returns false'. Refute it at one input. -/
def packetTailWrong : ChangeSpec := { name := "packetTail", fn := fun _ => fun
  | [d1, d2, d3] => { results := [.lit (.bool false)], args := [d1, d2, d3] }
  | _ => none }
def PacketTailWrongFalsely : Prop := packetTailRow.holds Try.pinned (OpenSpec.ofChange packetTailWrong)

/-- 'weirboxlaw10.OxmEncodes': WHATEVER THE INPUT: true; the input reads as it did. -/
def oxmEncodesSpec : ChangeSpec := { name := "oxmEncodes", fn := fun _ => fun
  | [d1, d2] => { results := [.lit (.bool true)], args := [d1, d2] }
  | _ => none }
def oxmEncodesRow : OpenClaim := { program := "ytdcijmigoefnjaa", sum := "b3aff23fdb0473832f218a7c051ec73ad745e4a382777f4e58d792093fb34397", func := "weirbox/weirboxlaw10.OxmEncodes", spec := "oxmEncodes", unfollowed := true, recurses := true, apart := false }
def OxmEncodesSaid : Prop := oxmEncodesRow.holds Try.pinned (OpenSpec.ofChange oxmEncodesSpec)

/-- ITS FALSE NEIGHBOUR: 'it returns false'. Refute it at one input. -/
def oxmEncodesWrong : ChangeSpec := { name := "oxmEncodes", fn := fun _ => fun
  | [d1, d2] => { results := [.lit (.bool false)], args := [d1, d2] }
  | _ => none }
def OxmEncodesWrongFalsely : Prop := oxmEncodesRow.holds Try.pinned (OpenSpec.ofChange oxmEncodesWrong)

/-- 'weirboxlaw10.OxmBack': WHATEVER THE INPUT: true; the input reads as it did. -/
def oxmBackSpec : ChangeSpec := { name := "oxmBack", fn := fun _ => fun
  | [d1, d2] => { results := [.lit (.bool true)], args := [d1, d2] }
  | _ => none }
def oxmBackRow : OpenClaim := { program := "ytdcijmigoefnjaa", sum := "b3aff23fdb0473832f218a7c051ec73ad745e4a382777f4e58d792093fb34397", func := "weirbox/weirboxlaw10.OxmBack", spec := "oxmBack", unfollowed := true, recurses := true, apart := false }
def OxmBackSaid : Prop := oxmBackRow.holds Try.pinned (OpenSpec.ofChange oxmBackSpec)

/-- ITS FALSE NEIGHBOUR: 'it returns false'. Refute it at one input. -/
def oxmBackWrong : ChangeSpec := { name := "oxmBack", fn := fun _ => fun
  | [d1, d2] => { results := [.lit (.bool false)], args := [d1, d2] }
  | _ => none }
def OxmBackWrongFalsely : Prop := oxmBackRow.holds Try.pinned (OpenSpec.ofChange oxmBackWrong)

/-- 'weirboxlaw45.PacketFits': WHATEVER THE INPUT: true; the input reads as it did. -/
def packetFitsSpec : ChangeSpec := { name := "packetFits", fn := fun _ => fun
  | [d1, d2] => { results := [.lit (.bool true)], args := [d1, d2] }
  | _ => none }
def packetFitsRow : OpenClaim := { program := "ytdcijmigoefnjaa", sum := "b3aff23fdb0473832f218a7c051ec73ad745e4a382777f4e58d792093fb34397", func := "weirbox/weirboxlaw45.PacketFits", spec := "packetFits", apart := false }
def PacketFitsSaid : Prop := packetFitsRow.holds Try.pinned (OpenSpec.ofChange packetFitsSpec)

/-- ITS FALSE NEIGHBOUR: 'it returns false'. Refute it at one input. -/
def packetFitsWrong : ChangeSpec := { name := "packetFits", fn := fun _ => fun
  | [d1, d2] => { results := [.lit (.bool false)], args := [d1, d2] }
  | _ => none }
def PacketFitsWrongFalsely : Prop := packetFitsRow.holds Try.pinned (OpenSpec.ofChange packetFitsWrong)

/-- 'weirboxlaw11.MatchCubes': WHATEVER THE INPUT: true; the input reads as it did. -/
def matchCubesSpec : ChangeSpec := { name := "matchCubes", fn := fun _ => fun
  | [d1, d2] => { results := [.lit (.bool true)], args := [d1, d2] }
  | _ => none }
def matchCubesRow : OpenClaim := { program := "ytdcijmigoefnjaa", sum := "b3aff23fdb0473832f218a7c051ec73ad745e4a382777f4e58d792093fb34397", func := "weirbox/weirboxlaw11.MatchCubes", spec := "matchCubes", unfollowed := true, recurses := true, apart := false }
def MatchCubesSaid : Prop := matchCubesRow.holds Try.pinned (OpenSpec.ofChange matchCubesSpec)

/-- ITS FALSE NEIGHBOUR: 'it returns false'. Refute it at one input. -/
def matchCubesWrong : ChangeSpec := { name := "matchCubes", fn := fun _ => fun
  | [d1, d2] => { results := [.lit (.bool false)], args := [d1, d2] }
  | _ => none }
def MatchCubesWrongFalsely : Prop := matchCubesRow.holds Try.pinned (OpenSpec.ofChange matchCubesWrong)

/-- 'weirboxlaw11.MatchDecodes': WHATEVER THE INPUT: true; the input reads as it did. -/
def matchDecodesSpec : ChangeSpec := { name := "matchDecodes", fn := fun _ => fun
  | [d] => { results := [.lit (.bool true)], args := [d] }
  | _ => none }
def matchDecodesRow : OpenClaim := { program := "ytdcijmigoefnjaa", sum := "b3aff23fdb0473832f218a7c051ec73ad745e4a382777f4e58d792093fb34397", func := "weirbox/weirboxlaw11.MatchDecodes", spec := "matchDecodes", unfollowed := true, recurses := true, apart := false }
def MatchDecodesSaid : Prop := matchDecodesRow.holds Try.pinned (OpenSpec.ofChange matchDecodesSpec)

/-- ITS FALSE NEIGHBOUR: 'it returns false'. Refute it at one input. -/
def matchDecodesWrong : ChangeSpec := { name := "matchDecodes", fn := fun _ => fun
  | [d] => { results := [.lit (.bool false)], args := [d] }
  | _ => none }
def MatchDecodesWrongFalsely : Prop := matchDecodesRow.holds Try.pinned (OpenSpec.ofChange matchDecodesWrong)

/-- 'weirboxlaw11.MatchEncodes': WHATEVER THE INPUT: true; the input reads as it did. -/
def matchEncodesSpec : ChangeSpec := { name := "matchEncodes", fn := fun _ => fun
  | [d1, d2] => { results := [.lit (.bool true)], args := [d1, d2] }
  | _ => none }
def matchEncodesRow : OpenClaim := { program := "ytdcijmigoefnjaa", sum := "b3aff23fdb0473832f218a7c051ec73ad745e4a382777f4e58d792093fb34397", func := "weirbox/weirboxlaw11.MatchEncodes", spec := "matchEncodes", unfollowed := true, recurses := true, apart := false }
def MatchEncodesSaid : Prop := matchEncodesRow.holds Try.pinned (OpenSpec.ofChange matchEncodesSpec)

/-- ITS FALSE NEIGHBOUR: 'it returns false'. Refute it at one input. -/
def matchEncodesWrong : ChangeSpec := { name := "matchEncodes", fn := fun _ => fun
  | [d1, d2] => { results := [.lit (.bool false)], args := [d1, d2] }
  | _ => none }
def MatchEncodesWrongFalsely : Prop := matchEncodesRow.holds Try.pinned (OpenSpec.ofChange matchEncodesWrong)

/-- 'weirboxlaw11.MatchNeeds': WHATEVER THE INPUT: true; the input reads as it did. -/
def matchNeedsSpec : ChangeSpec := { name := "matchNeeds", fn := fun _ => fun
  | [d1, d2] => { results := [.lit (.bool true)], args := [d1, d2] }
  | _ => none }
def matchNeedsRow : OpenClaim := { program := "ytdcijmigoefnjaa", sum := "b3aff23fdb0473832f218a7c051ec73ad745e4a382777f4e58d792093fb34397", func := "weirbox/weirboxlaw11.MatchNeeds", spec := "matchNeeds", unfollowed := true, recurses := true, apart := false }
def MatchNeedsSaid : Prop := matchNeedsRow.holds Try.pinned (OpenSpec.ofChange matchNeedsSpec)

/-- ITS FALSE NEIGHBOUR: 'it returns false'. Refute it at one input. -/
def matchNeedsWrong : ChangeSpec := { name := "matchNeeds", fn := fun _ => fun
  | [d1, d2] => { results := [.lit (.bool false)], args := [d1, d2] }
  | _ => none }
def MatchNeedsWrongFalsely : Prop := matchNeedsRow.holds Try.pinned (OpenSpec.ofChange matchNeedsWrong)

/-- 'weirboxlaw11.MatchBack': WHATEVER THE INPUT: true; the input reads as it did. -/
def matchBackSpec : ChangeSpec := { name := "matchBack", fn := fun _ => fun
  | [d1, d2] => { results := [.lit (.bool true)], args := [d1, d2] }
  | _ => none }
def matchBackRow : OpenClaim := { program := "ytdcijmigoefnjaa", sum := "b3aff23fdb0473832f218a7c051ec73ad745e4a382777f4e58d792093fb34397", func := "weirbox/weirboxlaw11.MatchBack", spec := "matchBack", unfollowed := true, recurses := true, apart := false }
def MatchBackSaid : Prop := matchBackRow.holds Try.pinned (OpenSpec.ofChange matchBackSpec)

/-- ITS FALSE NEIGHBOUR: 'it returns false'. Refute it at one input. -/
def matchBackWrong : ChangeSpec := { name := "matchBack", fn := fun _ => fun
  | [d1, d2] => { results := [.lit (.bool false)], args := [d1, d2] }
  | _ => none }
def MatchBackWrongFalsely : Prop := matchBackRow.holds Try.pinned (OpenSpec.ofChange matchBackWrong)

/-- 'weirboxlaw46.CraftBack': WHATEVER THE INPUT: true; the input reads as it did. -/
def craftBackSpec : ChangeSpec := { name := "craftBack", fn := fun _ => fun
  | [d] => { results := [.lit (.bool true)], args := [d] }
  | _ => none }
def craftBackRow : OpenClaim := { program := "ytdcijmigoefnjaa", sum := "b3aff23fdb0473832f218a7c051ec73ad745e4a382777f4e58d792093fb34397", func := "weirbox/weirboxlaw46.CraftBack", spec := "craftBack", unfollowed := true, recurses := true, apart := false }
def CraftBackSaid : Prop := craftBackRow.holds Try.pinned (OpenSpec.ofChange craftBackSpec)

/-- ITS FALSE NEIGHBOUR: 'it returns false'. Refute it at one input. -/
def craftBackWrong : ChangeSpec := { name := "craftBack", fn := fun _ => fun
  | [d] => { results := [.lit (.bool false)], args := [d] }
  | _ => none }
def CraftBackWrongFalsely : Prop := craftBackRow.holds Try.pinned (OpenSpec.ofChange craftBackWrong)

/-- 'weirboxlaw46.CraftAll': WHATEVER THE INPUT: true; the input reads as it did. -/
def craftAllSpec : ChangeSpec := { name := "craftAll", fn := fun _ => fun
  | [d1, d2] => { results := [.lit (.bool true)], args := [d1, d2] }
  | _ => none }
def craftAllRow : OpenClaim := { program := "ytdcijmigoefnjaa", sum := "b3aff23fdb0473832f218a7c051ec73ad745e4a382777f4e58d792093fb34397", func := "weirbox/weirboxlaw46.CraftAll", spec := "craftAll", unfollowed := true, recurses := true, apart := false }
def CraftAllSaid : Prop := craftAllRow.holds Try.pinned (OpenSpec.ofChange craftAllSpec)

/-- ITS FALSE NEIGHBOUR: 'it returns false'. Refute it at one input. -/
def craftAllWrong : ChangeSpec := { name := "craftAll", fn := fun _ => fun
  | [d1, d2] => { results := [.lit (.bool false)], args := [d1, d2] }
  | _ => none }
def CraftAllWrongFalsely : Prop := craftAllRow.holds Try.pinned (OpenSpec.ofChange craftAllWrong)

/-- 'weirboxlaw46.CraftMakes': WHATEVER THE INPUT: true; the input reads as it did. -/
def craftMakesSpec : ChangeSpec := { name := "craftMakes", fn := fun _ => fun
  | [d] => { results := [.lit (.bool true)], args := [d] }
  | _ => none }
def craftMakesRow : OpenClaim := { program := "ytdcijmigoefnjaa", sum := "b3aff23fdb0473832f218a7c051ec73ad745e4a382777f4e58d792093fb34397", func := "weirbox/weirboxlaw46.CraftMakes", spec := "craftMakes", unfollowed := true, recurses := true, apart := false }
def CraftMakesSaid : Prop := craftMakesRow.holds Try.pinned (OpenSpec.ofChange craftMakesSpec)

/-- ITS FALSE NEIGHBOUR: 'it returns false'. Refute it at one input. -/
def craftMakesWrong : ChangeSpec := { name := "craftMakes", fn := fun _ => fun
  | [d] => { results := [.lit (.bool false)], args := [d] }
  | _ => none }
def CraftMakesWrongFalsely : Prop := craftMakesRow.holds Try.pinned (OpenSpec.ofChange craftMakesWrong)

/- THE SECOND FORM. 'bulk': how many values and letters a reading holds, each counted each time it is reached (what is shared counts as often as it is met; a slice's spare places count too). A statement '..UptoSaid' is the law's where the arguments, and the package variables that the reading takes, are together of bulk at most 1048576: NARROWER than '..Said'. Prove '..Said' where nothing that the law and all that it calls make is longer than what came in: it says more and counts as full. Else prove '..UptoSaid'. A law counts once. -/
mutual
def uptoBulk {H : Type} : DataW H → Nat
  | .lit (.string bytes) => bytes.length + 1
  | .lit _ => 1
  | .nil => 1
  | .ptr d => uptoBulk d + 1
  | .slice elems spare => uptoBulkAll elems + uptoBulkAll spare + 1
  | .agg parts => uptoBulkAll parts + 1
  | .iface _ d => uptoBulk d + 1
  | .map entries => uptoBulkEntries entries + 1
  | .held _ => 1
def uptoBulkAll {H : Type} : List (DataW H) → Nat
  | [] => 0
  | d :: r => uptoBulk d + uptoBulkAll r
def uptoBulkEntries {H : Type} : List (Lit × DataW H) → Nat
  | [] => 0
  | x :: r => uptoBulkEntry x + uptoBulkEntries r
def uptoBulkEntry {H : Type} : Lit × DataW H → Nat
  | (.string bytes, d) => bytes.length + uptoBulk d + 1
  | (_, d) => uptoBulk d + 1
 end
def uptoSmall : (H : Type) → List (DataW H) → Bool := fun _ ds => decide (uptoBulkAll ds ≤ 1048576)
def OpenSpec.upto (s : _root_.Go.ChangeSpec) : _root_.Go.OpenSpec := { _root_.Go.OpenSpec.ofChange s with cond := some uptoSmall }

/-- 'weirboxlaw03.FieldBack', WHERE WHAT IT READS IS OF BULK AT MOST 1048576: true; the input reads as it did. -/
def fieldBackUptoRow : OpenClaim := { program := "ytdcijmigoefnjaa", sum := "b3aff23fdb0473832f218a7c051ec73ad745e4a382777f4e58d792093fb34397", func := "weirbox/weirboxlaw03.FieldBack", spec := "fieldBack", apart := false, narrowed := true }
def FieldBackUptoSaid : Prop := fieldBackUptoRow.holds Try.pinned (OpenSpec.upto fieldBackSpec)

/-- 'weirboxlaw03.FieldNeeds', WHERE WHAT IT READS IS OF BULK AT MOST 1048576: true; the input reads as it did. -/
def fieldNeedsUptoRow : OpenClaim := { program := "ytdcijmigoefnjaa", sum := "b3aff23fdb0473832f218a7c051ec73ad745e4a382777f4e58d792093fb34397", func := "weirbox/weirboxlaw03.FieldNeeds", spec := "fieldNeeds", apart := false, narrowed := true }
def FieldNeedsUptoSaid : Prop := fieldNeedsUptoRow.holds Try.pinned (OpenSpec.upto fieldNeedsSpec)

/-- 'weirboxlaw04.HeaderSets', WHERE WHAT IT READS IS OF BULK AT MOST 1048576: true; the input reads as it did. -/
def headerSetsUptoRow : OpenClaim := { program := "ytdcijmigoefnjaa", sum := "b3aff23fdb0473832f218a7c051ec73ad745e4a382777f4e58d792093fb34397", func := "weirbox/weirboxlaw04.HeaderSets", spec := "headerSets", apart := false, narrowed := true }
def HeaderSetsUptoSaid : Prop := headerSetsUptoRow.holds Try.pinned (OpenSpec.upto headerSetsSpec)

/-- 'weirboxlaw04.HeaderDiff', WHERE WHAT IT READS IS OF BULK AT MOST 1048576: true; the input reads as it did. -/
def headerDiffUptoRow : OpenClaim := { program := "ytdcijmigoefnjaa", sum := "b3aff23fdb0473832f218a7c051ec73ad745e4a382777f4e58d792093fb34397", func := "weirbox/weirboxlaw04.HeaderDiff", spec := "headerDiff", apart := false, narrowed := true }
def HeaderDiffUptoSaid : Prop := headerDiffUptoRow.holds Try.pinned (OpenSpec.upto headerDiffSpec)

/-- 'weirboxlaw03.FieldTells', WHERE WHAT IT READS IS OF BULK AT MOST 1048576: true; the input reads as it did. -/
def fieldTellsUptoRow : OpenClaim := { program := "ytdcijmigoefnjaa", sum := "b3aff23fdb0473832f218a7c051ec73ad745e4a382777f4e58d792093fb34397", func := "weirbox/weirboxlaw03.FieldTells", spec := "fieldTells", unfollowed := true, recurses := true, apart := false, narrowed := true }
def FieldTellsUptoSaid : Prop := fieldTellsUptoRow.holds Try.pinned (OpenSpec.upto fieldTellsSpec)

/-- 'weirboxlaw04.HeaderPuts', WHERE WHAT IT READS IS OF BULK AT MOST 1048576: true; the input reads as it did. -/
def headerPutsUptoRow : OpenClaim := { program := "ytdcijmigoefnjaa", sum := "b3aff23fdb0473832f218a7c051ec73ad745e4a382777f4e58d792093fb34397", func := "weirbox/weirboxlaw04.HeaderPuts", spec := "headerPuts", apart := false, narrowed := true }
def HeaderPutsUptoSaid : Prop := headerPutsUptoRow.holds Try.pinned (OpenSpec.upto headerPutsSpec)

/-- 'weirboxlaw04.HeaderBack', WHERE WHAT IT READS IS OF BULK AT MOST 1048576: true; the input reads as it did. -/
def headerBackUptoRow : OpenClaim := { program := "ytdcijmigoefnjaa", sum := "b3aff23fdb0473832f218a7c051ec73ad745e4a382777f4e58d792093fb34397", func := "weirbox/weirboxlaw04.HeaderBack", spec := "headerBack", apart := false, narrowed := true }
def HeaderBackUptoSaid : Prop := headerBackUptoRow.holds Try.pinned (OpenSpec.upto headerBackSpec)

/-- 'weirboxlaw10.OxmDecodes', WHERE WHAT IT READS IS OF BULK AT MOST 1048576: true; the input reads as it did. -/
def oxmDecodesUptoRow : OpenClaim := { program := "ytdcijmigoefnjaa", sum := "b3aff23fdb0473832f218a7c051ec73ad745e4a382777f4e58d792093fb34397", func := "weirbox/weirboxlaw10.OxmDecodes", spec := "oxmDecodes", unfollowed := true, recurses := true, apart := false, narrowed := true }
def OxmDecodesUptoSaid : Prop := oxmDecodesUptoRow.holds Try.pinned (OpenSpec.upto oxmDecodesSpec)

/-- 'weirboxlaw10.OxmCounts', WHERE WHAT IT READS IS OF BULK AT MOST 1048576: true; the input reads as it did. -/
def oxmCountsUptoRow : OpenClaim := { program := "ytdcijmigoefnjaa", sum := "b3aff23fdb0473832f218a7c051ec73ad745e4a382777f4e58d792093fb34397", func := "weirbox/weirboxlaw10.OxmCounts", spec := "oxmCounts", unfollowed := true, recurses := true, apart := false, narrowed := true }
def OxmCountsUptoSaid : Prop := oxmCountsUptoRow.holds Try.pinned (OpenSpec.upto oxmCountsSpec)

/-- 'weirboxlaw45.PacketParses', WHERE WHAT IT READS IS OF BULK AT MOST 1048576: true; the input reads as it did. -/
def packetParsesUptoRow : OpenClaim := { program := "ytdcijmigoefnjaa", sum := "b3aff23fdb0473832f218a7c051ec73ad745e4a382777f4e58d792093fb34397", func := "weirbox/weirboxlaw45.PacketParses", spec := "packetParses", apart := false, narrowed := true }
def PacketParsesUptoSaid : Prop := packetParsesUptoRow.holds Try.pinned (OpenSpec.upto packetParsesSpec)

/-- 'weirboxlaw45.PacketSums', WHERE WHAT IT READS IS OF BULK AT MOST 1048576: true; the input reads as it did. -/
def packetSumsUptoRow : OpenClaim := { program := "ytdcijmigoefnjaa", sum := "b3aff23fdb0473832f218a7c051ec73ad745e4a382777f4e58d792093fb34397", func := "weirbox/weirboxlaw45.PacketSums", spec := "packetSums", apart := false, narrowed := true }
def PacketSumsUptoSaid : Prop := packetSumsUptoRow.holds Try.pinned (OpenSpec.upto packetSumsSpec)

/-- 'weirboxlaw45.PacketTail', WHERE WHAT IT READS IS OF BULK AT MOST 1048576: true; the input reads as it did. -/
def packetTailUptoRow : OpenClaim := { program := "ytdcijmigoefnjaa", sum := "b3aff23fdb0473832f218a7c051ec73ad745e4a382777f4e58d792093fb34397", func := "weirbox/weirboxlaw45.PacketTail", spec := "packetTail", apart := false, narrowed := true }
def PacketTailUptoSaid : Prop := packetTailUptoRow.holds Try.pinned (OpenSpec.upto packetTailSpec)

/-- 'weirboxlaw10.OxmEncodes', WHERE WHAT IT READS IS OF BULK AT MOST 1048576: true; the input reads as it did. -/
def oxmEncodesUptoRow : OpenClaim := { program := "ytdcijmigoefnjaa", sum := "b3aff23fdb0473832f218a7c051ec73ad745e4a382777f4e58d792093fb34397", func := "weirbox/weirboxlaw10.OxmEncodes", spec := "oxmEncodes", unfollowed := true, recurses := true, apart := false, narrowed := true }
def OxmEncodesUptoSaid : Prop := oxmEncodesUptoRow.holds Try.pinned (OpenSpec.upto oxmEncodesSpec)

/-- 'weirboxlaw10.OxmBack', WHERE WHAT IT READS IS OF BULK AT MOST 1048576: true; the input reads as it did. -/
def oxmBackUptoRow : OpenClaim := { program := "ytdcijmigoefnjaa", sum := "b3aff23fdb0473832f218a7c051ec73ad745e4a382777f4e58d792093fb34397", func := "weirbox/weirboxlaw10.OxmBack", spec := "oxmBack", unfollowed := true, recurses := true, apart := false, narrowed := true }
def OxmBackUptoSaid : Prop := oxmBackUptoRow.holds Try.pinned (OpenSpec.upto oxmBackSpec)

/-- 'weirboxlaw45.PacketFits', WHERE WHAT IT READS IS OF BULK AT MOST 1048576: true; the input reads as it did. -/
def packetFitsUptoRow : OpenClaim := { program := "ytdcijmigoefnjaa", sum := "b3aff23fdb0473832f218a7c051ec73ad745e4a382777f4e58d792093fb34397", func := "weirbox/weirboxlaw45.PacketFits", spec := "packetFits", apart := false, narrowed := true }
def PacketFitsUptoSaid : Prop := packetFitsUptoRow.holds Try.pinned (OpenSpec.upto packetFitsSpec)

/-- 'weirboxlaw11.MatchCubes', WHERE WHAT IT READS IS OF BULK AT MOST 1048576: true; the input reads as it did. -/
def matchCubesUptoRow : OpenClaim := { program := "ytdcijmigoefnjaa", sum := "b3aff23fdb0473832f218a7c051ec73ad745e4a382777f4e58d792093fb34397", func := "weirbox/weirboxlaw11.MatchCubes", spec := "matchCubes", unfollowed := true, recurses := true, apart := false, narrowed := true }
def MatchCubesUptoSaid : Prop := matchCubesUptoRow.holds Try.pinned (OpenSpec.upto matchCubesSpec)

/-- 'weirboxlaw11.MatchDecodes', WHERE WHAT IT READS IS OF BULK AT MOST 1048576: true; the input reads as it did. -/
def matchDecodesUptoRow : OpenClaim := { program := "ytdcijmigoefnjaa", sum := "b3aff23fdb0473832f218a7c051ec73ad745e4a382777f4e58d792093fb34397", func := "weirbox/weirboxlaw11.MatchDecodes", spec := "matchDecodes", unfollowed := true, recurses := true, apart := false, narrowed := true }
def MatchDecodesUptoSaid : Prop := matchDecodesUptoRow.holds Try.pinned (OpenSpec.upto matchDecodesSpec)

/-- 'weirboxlaw11.MatchEncodes', WHERE WHAT IT READS IS OF BULK AT MOST 1048576: true; the input reads as it did. -/
def matchEncodesUptoRow : OpenClaim := { program := "ytdcijmigoefnjaa", sum := "b3aff23fdb0473832f218a7c051ec73ad745e4a382777f4e58d792093fb34397", func := "weirbox/weirboxlaw11.MatchEncodes", spec := "matchEncodes", unfollowed := true, recurses := true, apart := false, narrowed := true }
def MatchEncodesUptoSaid : Prop := matchEncodesUptoRow.holds Try.pinned (OpenSpec.upto matchEncodesSpec)

/-- 'weirboxlaw11.MatchNeeds', WHERE WHAT IT READS IS OF BULK AT MOST 1048576: true; the input reads as it did. -/
def matchNeedsUptoRow : OpenClaim := { program := "ytdcijmigoefnjaa", sum := "b3aff23fdb0473832f218a7c051ec73ad745e4a382777f4e58d792093fb34397", func := "weirbox/weirboxlaw11.MatchNeeds", spec := "matchNeeds", unfollowed := true, recurses := true, apart := false, narrowed := true }
def MatchNeedsUptoSaid : Prop := matchNeedsUptoRow.holds Try.pinned (OpenSpec.upto matchNeedsSpec)

/-- 'weirboxlaw11.MatchBack', WHERE WHAT IT READS IS OF BULK AT MOST 1048576: true; the input reads as it did. -/
def matchBackUptoRow : OpenClaim := { program := "ytdcijmigoefnjaa", sum := "b3aff23fdb0473832f218a7c051ec73ad745e4a382777f4e58d792093fb34397", func := "weirbox/weirboxlaw11.MatchBack", spec := "matchBack", unfollowed := true, recurses := true, apart := false, narrowed := true }
def MatchBackUptoSaid : Prop := matchBackUptoRow.holds Try.pinned (OpenSpec.upto matchBackSpec)

/-- 'weirboxlaw46.CraftBack', WHERE WHAT IT READS IS OF BULK AT MOST 1048576: true; the input reads as it did. -/
def craftBackUptoRow : OpenClaim := { program := "ytdcijmigoefnjaa", sum := "b3aff23fdb0473832f218a7c051ec73ad745e4a382777f4e58d792093fb34397", func := "weirbox/weirboxlaw46.CraftBack", spec := "craftBack", unfollowed := true, recurses := true, apart := false, narrowed := true }
def CraftBackUptoSaid : Prop := craftBackUptoRow.holds Try.pinned (OpenSpec.upto craftBackSpec)

/-- 'weirboxlaw46.CraftAll', WHERE WHAT IT READS IS OF BULK AT MOST 1048576: true; the input reads as it did. -/
def craftAllUptoRow : OpenClaim := { program := "ytdcijmigoefnjaa", sum := "b3aff23fdb0473832f218a7c051ec73ad745e4a382777f4e58d792093fb34397", func := "weirbox/weirboxlaw46.CraftAll", spec := "craftAll", unfollowed := true, recurses := true, apart := false, narrowed := true }
def CraftAllUptoSaid : Prop := craftAllUptoRow.holds Try.pinned (OpenSpec.upto craftAllSpec)

/-- 'weirboxlaw46.CraftMakes', WHERE WHAT IT READS IS OF BULK AT MOST 1048576: true; the input reads as it did. -/
def craftMakesUptoRow : OpenClaim := { program := "ytdcijmigoefnjaa", sum := "b3aff23fdb0473832f218a7c051ec73ad745e4a382777f4e58d792093fb34397", func := "weirbox/weirboxlaw46.CraftMakes", spec := "craftMakes", unfollowed := true, recurses := true, apart := false, narrowed := true }
def CraftMakesUptoSaid : Prop := craftMakesUptoRow.holds Try.pinned (OpenSpec.upto craftMakesSpec)

end Rows
end Go.Proofs.Ytdcijmigoefnjaa
