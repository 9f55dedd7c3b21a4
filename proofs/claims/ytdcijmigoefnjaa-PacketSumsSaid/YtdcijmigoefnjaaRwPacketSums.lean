/- The row of PacketSums, out of its call. -/
import Derived.Test.YtdcijmigoefnjaaRows
import Derived.Test.YtdcijmigoefnjaaEvLa
import Derived.Test.YtdcijmigoefnjaaJf
import Derived.Test.YtdcijmigoefnjaaL45i
import Derived.WalkKit
import Derived.ProofKit
import Derived.OpenShut
import Derived.ShutString
import Derived.ChangeOld
import Derived.Below
import Derived.SizedLaws
set_option linter.unusedVariables false
set_option maxRecDepth 100000
namespace Go.Proofs.Ytdcijmigoefnjaa
open Go Go.Ev Go.ChangeShapes Go.WideShapes Go.ChangeAt Go.RowKit
open Go.ChangeMaps (open_string shut_string)
theorem own_PacketSums : ownKnob Try.prog.godebug = none := by kernel_rfl
set_option maxRecDepth 100000 in
theorem lifted_PacketSums (os : Os) (started : os.Started) (H : Type) (enc : TypeId × Value → H) :
    ReturnsInHanded {} Try.checked os 13 .any (Rows.packetSumsSpec.pre6 enc Try.prog Try.f13 Rows.packetSumsRow.domain false) (Rows.packetSumsSpec.post enc Try.prog Try.f13 false true false false) := by
  refine returnsInHanded_of_change_sized (C := Try.checked) own_PacketSums started (by kernel_rfl) Try.func13
    (ChangeSpec.witness6 (enc := enc) (C := Try.checked) false ⟨#[], #[.slice none 0 0, .int .u16 0], []⟩ 8 (by kernel_rfl) (by kernel_rfl) (by kernel_rfl) (by kernel_rfl)) ?_
  intro W base args ds gs before hval0 hW hcnd hsz0 _
  have hval : ∀ (j : Nat) t v, Try.f13.params[j]? = some t → args[j]? = some v → Value.okWide Try.prog W .any base t v := hval0
  have hW' := hW
  obtain ⟨p, q, hA0, hV, rfl, hfz, hnd⟩ := hW
  have hA : DataW.TrodAll enc Try.prog W 0 (fun _ => true) true Try.f13.params.toList args.toList ds p := hA0
  rw [Try.params13] at hA hval
  obtain ⟨v0, vs0, d0, ds0, p0, q0, hargs, rfl, rfl, h0, r0⟩ := trodAll_cons hA
  obtain ⟨v1, vs1, d1, ds1, p1, q1, rfl, rfl, rfl, h1, r1⟩ := trodAll_cons r0
  obtain ⟨rfl, rfl, rfl⟩ := trodAll_nil r1
  obtain rfl : args = #[v0, v1] := by cases args; simp_all
  obtain ⟨rfl, rfl⟩ := trodVars_none hV
  have k0 := h0
  have lt0 : ∀ x ∈ p0, x.block < W.heap.size := by obtain ⟨m, hm⟩ := k0; exact DataW.trod_lt m _ _ _ hm
  obtain ⟨a0, w0, z0, e0⟩ := open_sliceA (d := 9) (ls := [.int .u8]) Try.underlying52 (by kernel_rfl) (by kernel_rfl) (by decide) h0 (hval 0 52 v0 rfl rfl)
  obtain ⟨a1, rfl, rfl, rfl, w1⟩ := open_int Try.underlying74 (hval 1 74 v1 rfl rfl) h1
  clear hA0 hval0 hsz0
  refine (CallsA.below (cPacketSums w0 z0 (wf_int w1)) (.cons (e0) (.cons (.int _ _) (.nil)))).mono fun e W' ⟨he, bel⟩ => ?_
  subst he
  exact ⟨_, rfl, _, _, _, [], _, [], hW', trodAll_mk1 (shut_bool Try.underlying4 _), (trodAll_cons_mk (Below.trod jf1 (by kernel_rfl) (of_decide_eq_true (by kernel_rfl)) k0 bel lt0) (trodAll_cons_mk (shut_int Try.underlying74 w1) trodAll_mk0)), rfl, bel.frame _, fun h => by cases h⟩
set_option maxRecDepth 100000 in
theorem jf0_PacketSums : (Rows.packetSumsRow.wf (OpenSpec.ofChange Rows.packetSumsSpec)) = true := by kernel_rfl
set_option maxRecDepth 100000 in
theorem jf3_PacketSums : (Try.f13.params.all (Try.prog.readableRec ·)) = true := by kernel_rfl
set_option maxRecDepth 100000 in
theorem jf4_PacketSums : (namedTie Try.prog Rows.packetSumsRow.named Rows.packetSumsSpec.vars) = true := by kernel_rfl
set_option maxRecDepth 100000 in
theorem jf5_PacketSums : ((Rows.packetSumsRow.stops == [])) = true := by kernel_rfl
set_option maxRecDepth 100000 in
theorem jf7_PacketSums : ((Rows.packetSumsRow.knobs == [])) = true := by kernel_rfl
set_option maxRecDepth 100000 in
theorem jf9_PacketSums : ((Rows.packetSumsRow.inPlace == Try.prog.inPlace 13)) = true := by kernel_rfl
set_option maxRecDepth 100000 in
theorem jf10_PacketSums : ((Rows.packetSumsRow.unfollowed == Try.prog.unfollowed 13)) = true := by kernel_rfl
set_option maxRecDepth 100000 in
theorem jf11_PacketSums : ((Rows.packetSumsRow.recurses == Try.prog.recurses 13)) = true := by kernel_rfl
set_option maxRecDepth 100000 in
theorem jf12_PacketSums : ((Rows.packetSumsRow.named == Try.prog.varsNamed 13)) = true := by kernel_rfl
set_option maxRecDepth 100000 in
theorem jf13_PacketSums : ((Rows.packetSumsRow.maps == (Try.f13.params.toList ++ Rows.packetSumsSpec.plain.varTypes Try.prog).any (Try.prog.mapsRec ·))) = true := by kernel_rfl
set_option maxRecDepth 100000 in
theorem jf14_PacketSums : ((Rows.packetSumsRow.ifaces == (Try.f13.params.toList ++ Rows.packetSumsSpec.plain.varTypes Try.prog).any (Try.prog.ifacesRec ·))) = true := by kernel_rfl
set_option maxRecDepth 100000 in
theorem jf15_PacketSums : ((Rows.packetSumsRow.mapsOut == Try.prog.mapsAmong Try.f13.resultTypes.toList)) = true := by kernel_rfl
set_option maxRecDepth 100000 in
theorem jf16_PacketSums : ((Rows.packetSumsRow.loops == (Try.f13.params.toList ++ Rows.packetSumsSpec.plain.varTypes Try.prog).any (Try.prog.loopsFrom ·))) = true := by kernel_rfl
set_option maxRecDepth 100000 in
theorem jf17_PacketSums : ((Rows.packetSumsRow.wideKeys == (Try.f13.params.toList ++ Rows.packetSumsSpec.plain.varTypes Try.prog ++ Try.f13.resultTypes.toList).any (Try.prog.wideKeysFrom ·))) = true := by kernel_rfl
set_option maxRecDepth 100000 in
theorem jf18_PacketSums : (Rows.packetSumsSpec.vars.all (Try.prog.varReadable ·)) = true := by kernel_rfl
set_option maxRecDepth 100000 in
theorem jf19_PacketSums : (Try.f13.resultTypes.all (fun t => Try.prog.readableRec t && decide (t < Try.prog.types.size))) = true := by kernel_rfl
set_option maxRecDepth 100000 in
theorem jf20_PacketSums : ((Rows.packetSumsRow.ifacesOut == Try.f13.resultTypes.toList.any (Try.prog.ifacesRec ·))) = true := by kernel_rfl
set_option maxRecDepth 100000 in
theorem jf21_PacketSums : ((Rows.packetSumsRow.loopsOut == Try.f13.resultTypes.toList.any (Try.prog.loopsFrom ·))) = true := by kernel_rfl
set_option maxRecDepth 100000 in
theorem jf22_PacketSums : ((Rows.packetSumsRow.plainKeys == Try.prog.plainKeys)) = true := by kernel_rfl
set_option maxRecDepth 100000 in
theorem jf23_PacketSums : (Rows.packetSumsRow.shortTexts.isNone) = true := by kernel_rfl
set_option maxRecDepth 100000 in
theorem jf26_PacketSums : ((Rows.packetSumsRow.lifted == Try.prog.liftsFinal)) = true := by rw [lifts_eq]; rfl
set_option maxRecDepth 100000 in
theorem jf27_PacketSums : ((Try.prog.make == some Rows.packetSumsRow.make)) = true := by rw [make_eq]; rfl
set_option maxRecDepth 100000 in
theorem jf28_PacketSums : ((Rows.packetSumsRow.kinds == (if Rows.packetSumsRow.domain.isEmpty then [] else Try.f13.params.toList.map fun t => match Try.prog.underlying t with | some (.int k) => some k | _ => none))) = true := by kernel_rfl
set_option maxRecDepth 100000 in
theorem jf29_PacketSums : ((Rows.packetSumsRow.pinned == Rows.packetSumsRow.pinnedBy)) = true := by kernel_rfl
set_option maxRecDepth 100000 in
theorem jf30_PacketSums : ((Rows.packetSumsRow.veiled == (Try.f13.params.toList ++ Rows.packetSumsSpec.plain.varTypes Try.prog ++ Try.f13.resultTypes.toList).any (Try.prog.veiledRec ·))) = true := by kernel_rfl
set_option maxRecDepth 100000 in
theorem jf31_PacketSums : (Rows.packetSumsRow.veiledFits Try.prog Try.f13.params.toList (Try.f13.params.toList ++ Rows.packetSumsSpec.plain.varTypes Try.prog ++ Try.f13.resultTypes.toList)) = true := by kernel_rfl
/-- PacketSums holds. -/
theorem packetSums_holds : Rows.PacketSumsSaid :=
  OpenClaim.holds_of_wide 13 Try.f13 rfl rfl rfl rfl rfl rfl rfl ⟨rfl, rfl, rfl, rfl, rfl⟩ rfl rfl rfl rfl rfl (by kernel_rfl) Try.func13 (joined_of jf0_PacketSums jf1 jf2 jf3_PacketSums jf4_PacketSums jf5_PacketSums jf6 jf7_PacketSums jf8 jf9_PacketSums jf10_PacketSums jf11_PacketSums jf12_PacketSums jf13_PacketSums jf14_PacketSums jf15_PacketSums jf16_PacketSums jf17_PacketSums jf18_PacketSums jf19_PacketSums jf20_PacketSums jf21_PacketSums jf22_PacketSums jf23_PacketSums jf24 jf25 jf26_PacketSums jf27_PacketSums jf28_PacketSums jf29_PacketSums jf30_PacketSums jf31_PacketSums)
    (of_decide_eq_true (by kernel_rfl)) (by unfold Func.isWrapper; first | (rw [if_pos (by decide +kernel)]; kernel_rfl) | (rw [if_neg (by decide +kernel)]; exact ⟨rfl, rfl⟩))
    (fun os started H enc _ => lifted_PacketSums os started H enc)
end Go.Proofs.Ytdcijmigoefnjaa
