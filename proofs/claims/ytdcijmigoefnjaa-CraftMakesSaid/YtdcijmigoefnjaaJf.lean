import Derived.Test.YtdcijmigoefnjaaRows
import Derived.ProofKit
set_option maxRecDepth 100000
namespace Go.Proofs.Ytdcijmigoefnjaa
open Go
theorem tt {a b : Bool} (h : a = true) (k : b = true) : (a && b) = true := by rw [h,k]; rfl
def initSigns : List Char := List.map Char.ofNat [104,97,114,110,101,115,115,32,53,57,51,102,101,102,100,101,51,99,51,57,99,97,101,99,99,56,54,56,56,48,51,101,99,55,99,54,54,48,53,100,51,52,54,51,50,99,55,54,99,101,52,54,98,52,50,56,48,101,50,51,100,98,100,48,99,55,57,101,97,55,101,49,32,99,117,116,32,97,116,32,119,101,105,114,98,111,120,47,119,101,105,114,98,111,120,108,97,119,48,51,46,70,105,101,108,100,66,97,99,107,32,119,101,105,114,98,111,120,47,119,101,105,114,98,111,120,108,97,119,48,51,46,70,105,101,108,100,78,101,101,100,115,32,119,101,105,114,98,111,120,47,119,101,105,114,98,111,120,108,97,119,48,52,46,72,101,97,100,101,114,83,101,116,115,32,119,101,105,114,98,111,120,47,119,101,105,114,98,111,120,108,97,119,48,52,46,72,101,97,100,101,114,68,105,102,102,32,119,101,105,114,98,111,120,47,119,101,105,114,98,111,120,108,97,119,48,51,46,70,105,101,108,100,84,101,108,108,115,32,119,101,105,114,98,111,120,47,119,101,105,114,98,111,120,108,97,119,48,52,46,72,101,97,100,101,114,80,117,116,115,32,119,101,105,114,98,111,120,47,119,101,105,114,98,111,120,108,97,119,48,52,46,72,101,97,100,101,114,66,97,99,107,32,119,101,105,114,98,111,120,47,119,101,105,114,98,111,120,108,97,119,49,48,46,79,120,109,68,101,99,111,100,101,115,32,119,101,105,114,98,111,120,47,119,101,105,114,98,111,120,108,97,119,49,48,46,79,120,109,67,111,117,110,116,115,32,119,101,105,114,98,111,120,47,119,101,105,114,98,111,120,108,97,119,52,53,46,80,97,99,107,101,116,80,97,114,115,101,115,32,119,101,105,114,98,111,120,47,119,101,105,114,98,111,120,108,97,119,52,53,46,80,97,99,107,101,116,83,117,109,115,32,119,101,105,114,98,111,120,47,119,101,105,114,98,111,120,108,97,119,52,53,46,80,97,99,107,101,116,84,97,105,108,32,119,101,105,114,98,111,120,47,119,101,105,114,98,111,120,108,97,119,49,48,46,79,120,109,69,110,99,111,100,101,115,32,119,101,105,114,98,111,120,47,119,101,105,114,98,111,120,108,97,119,49,48,46,79,120,109,66,97,99,107,32,119,101,105,114,98,111,120,47,119,101,105,114,98,111,120,108,97,119,52,53,46,80,97,99,107,101,116,70,105,116,115,32,119,101,105,114,98,111,120,47,119,101,105,114,98,111,120,108,97,119,49,49,46,77,97,116,99,104,67,117,98,101,115,32,119,101,105,114,98,111,120,47,119,101,105,114,98,111,120,108,97,119,49,49,46,77,97,116,99,104,68,101,99,111,100,101,115,32,119,101,105,114,98,111,120,47,119,101,105,114,98,111,120,108,97,119,49,49,46,77,97,116,99,104,69,110,99,111,100,101,115,32,119,101,105,114,98,111,120,47,119,101,105,114,98,111,120,108,97,119,49,49,46,77,97,116,99,104,78,101,101,100,115,32,119,101,105,114,98,111,120,47,119,101,105,114,98,111,120,108,97,119,49,49,46,77,97,116,99,104,66,97,99,107,32,119,101,105,114,98,111,120,47,119,101,105,114,98,111,120,108,97,119,52,54,46,67,114,97,102,116,66,97,99,107,32,119,101,105,114,98,111,120,47,119,101,105,114,98,111,120,108,97,119,52,54,46,67,114,97,102,116,65,108,108,32,119,101,105,114,98,111,120,47,119,101,105,114,98,111,120,108,97,119,52,54,46,67,114,97,102,116,77,97,107,101,115]
theorem init_eq : Try.prog.initOrder = String.ofList initSigns := by kernel_rfl
theorem init_signs : Try.prog.initOrder.toList = initSigns := by rw [init_eq,String.toList_ofList]
def goW : List Char → List Char → List (List Char)
 | acc,[] => [acc.reverse]
 | acc,c :: r => if c = Char.ofNat 32 then acc.reverse :: goW [] r else goW (c :: acc) r
theorem wordsSigns_cons (c : Char) (r : List Char) : wordsSigns (c :: r) = if c = Char.ofNat 32 then [] :: wordsSigns r else (match wordsSigns r with | w :: ws => (c :: w) :: ws | [] => [[c]]) := by
 by_cases h : c = Char.ofNat 32
 ·subst h; rw [if_pos rfl]; rfl
 ·rw [if_neg h]
  rw [wordsSigns.eq_def]
  split
  ·rename_i e; cases e
  ·rename_i e; cases e; exact absurd rfl h
  ·rename_i e; cases e; rfl
theorem goW_eq : ∀ (l acc : List Char),goW acc l = (match wordsSigns l with | w :: ws => (acc.reverse ++ w) :: ws | [] => [acc.reverse])
 | [],acc => by simp [goW,wordsSigns]
 | c :: r,acc => by
  rw [goW,wordsSigns_cons]
  by_cases h : c = Char.ofNat 32
  ·rw [if_pos h,if_pos h,goW_eq r []]
   cases hw : wordsSigns r with
   | nil => cases r with
    | nil => simp [wordsSigns] at hw
    | cons d r => rw [wordsSigns_cons] at hw; split at hw <;> (try split at hw) <;> cases hw
   | cons w ws => simp
  ·rw [if_neg h,if_neg h,goW_eq r (c :: acc)]
   cases hw : wordsSigns r with
   | nil => simp
   | cons w ws => simp
theorem words_eq (l : List Char) : wordsSigns l = goW [] l := by
 rw [goW_eq]
 cases hw : wordsSigns l with
 | nil => cases l with
  | nil => simp [wordsSigns] at hw
  | cons d r => rw [wordsSigns_cons] at hw; split at hw <;> (try split at hw) <;> cases hw
 | cons w ws => simp
def cutW : List Char := List.map Char.ofNat [99,117,116]
def restW : List (List Char) := (behindMainWord (goW [] initSigns)).tail
theorem front_eq : behindMainWord (goW [] initSigns) = cutW :: restW := by kernel_rfl
theorem strip_eq : stripLifts liftWords (cutW :: restW) = ([],cutW :: restW) := by kernel_rfl
theorem lays_eq : Try.prog.laysLater = false := by kernel_rfl
theorem refl_eq : Try.prog.bearsReflect = false := by kernel_rfl
theorem door_eq : Try.prog.doorFits [] = true := by kernel_rfl
theorem w1 : (cutW == "gc".toList) = false := by kernel_rfl
theorem w2 : (cutW == "spec".toList) = false := by kernel_rfl
theorem w3 : (cutW == "carried".toList) = false := by kernel_rfl
theorem w4 : (cutW == "cut".toList) = true := by kernel_rfl
theorem may_of {P : Program} {l : List Char} {rest : List (List Char)} (h : P.initOrder.toList = l) (h2 : behindMainWord (goW [] l) = cutW :: rest) (h3 : stripLifts liftWords (cutW :: rest) = ([],cutW :: rest))
  (h4 : P.laysLater = false) (h5 : P.bearsReflect = false) (h6 : P.doorFits [] = true) : P.mayEnter = true := by
 unfold Program.mayEnter
 rw [h,words_eq,h2]
 simp only [h3,w1,w2,w3,h4,h5,h6,Bool.false_or,Bool.false_and,List.head?_cons,List.contains_nil,Bool.not_false,Bool.and_true,Bool.or_true,Bool.or_false]
 exact w4
theorem make_of {P : Program} {l : List Char} {rest : List (List Char)} (h : P.initOrder.toList = l) (h2 : behindMainWord (goW [] l) = cutW :: rest) : P.make = some .cut := by
 unfold Program.make
 rw [h,words_eq,h2]
 simp only [w1,w2,w4,Bool.or_false,Bool.true_or,if_true,Bool.false_eq_true,if_false]
theorem lifts_of {P : Program} {l : List Char} {rest : List (List Char)} (h : P.initOrder.toList = l) (h2 : behindMainWord (goW [] l) = cutW :: rest) (h3 : stripLifts liftWords (cutW :: rest) = ([],cutW :: rest)) : P.liftsFinal = false := by
 have w5 : (some cutW == some "carried".toList) = false := by kernel_rfl
 unfold Program.liftsFinal Program.headLifts
 simp only [h,words_eq,h2,h3,List.head?_cons,w5,Bool.false_and,Bool.false_or]
 split <;> rfl
theorem make_eq : Try.prog.make = some .cut := make_of init_signs front_eq
theorem lifts_eq : Try.prog.liftsFinal = false := lifts_of init_signs front_eq strip_eq
theorem jf1 : (laidOutB Try.prog) = true := by kernel_rfl
theorem jf2 : (mapsRowed Try.prog) = true := by kernel_rfl
theorem jf6 : ((Try.prog.stops == [])) = true := by kernel_rfl
theorem jf8 : ((Try.prog.stopKnobs == [])) = true := by kernel_rfl
theorem jf24 : (Try.prog.stopsHeard) = true := by kernel_rfl
theorem jf25 : (Try.prog.mayEnter) = true := may_of init_signs front_eq strip_eq lays_eq refl_eq door_eq
theorem joined_of {P : Program} {f : FuncId} {fn : Func} {s : ChangeSpec} {c : OpenClaim} (h0 : (c.wf (OpenSpec.ofChange s)) = true) (h1 : (laidOutB P) = true) (h2 : (mapsRowed P) = true) (h3 : (fn.params.all (P.readableRec ·)) = true) (h4 : (namedTie P c.named s.vars) = true) (h5 : ((c.stops == [])) = true) (h6 : ((P.stops == [])) = true) (h7 : ((c.knobs == [])) = true) (h8 : ((P.stopKnobs == [])) = true) (h9 : ((c.inPlace == P.inPlace f)) = true) (h10 : ((c.unfollowed == P.unfollowed f)) = true) (h11 : ((c.recurses == P.recurses f)) = true) (h12 : ((c.named == P.varsNamed f)) = true) (h13 : ((c.maps == (fn.params.toList ++ s.plain.varTypes P).any (P.mapsRec ·))) = true) (h14 : ((c.ifaces == (fn.params.toList ++ s.plain.varTypes P).any (P.ifacesRec ·))) = true) (h15 : ((c.mapsOut == P.mapsAmong fn.resultTypes.toList)) = true) (h16 : ((c.loops == (fn.params.toList ++ s.plain.varTypes P).any (P.loopsFrom ·))) = true) (h17 : ((c.wideKeys == (fn.params.toList ++ s.plain.varTypes P ++ fn.resultTypes.toList).any (P.wideKeysFrom ·))) = true) (h18 : (s.vars.all (P.varReadable ·)) = true) (h19 : (fn.resultTypes.all (fun t => P.readableRec t && decide (t < P.types.size))) = true) (h20 : ((c.ifacesOut == fn.resultTypes.toList.any (P.ifacesRec ·))) = true) (h21 : ((c.loopsOut == fn.resultTypes.toList.any (P.loopsFrom ·))) = true) (h22 : ((c.plainKeys == P.plainKeys)) = true) (h23 : (c.shortTexts.isNone) = true) (h24 : (P.stopsHeard) = true) (h25 : (P.mayEnter) = true) (h26 : ((c.lifted == P.liftsFinal)) = true) (h27 : ((P.make == some c.make)) = true) (h28 : ((c.kinds == (if c.domain.isEmpty then [] else fn.params.toList.map fun t => match P.underlying t with | some (.int k) => some k | _ => none))) = true) (h29 : ((c.pinned == c.pinnedBy)) = true) (h30 : ((c.veiled == (fn.params.toList ++ s.plain.varTypes P ++ fn.resultTypes.toList).any (P.veiledRec ·))) = true) (h31 : (c.veiledFits P fn.params.toList (fn.params.toList ++ s.plain.varTypes P ++ fn.resultTypes.toList)) = true) : joinedFacts P f fn s c = true := by
 unfold joinedFacts
 exact (tt (tt (tt (tt (tt (tt (tt (tt (tt (tt (tt (tt (tt (tt (tt (tt (tt (tt (tt (tt (tt (tt (tt (tt (tt (tt (tt (tt (tt (tt (tt h0 h1) h2) h3) h4) h5) h6) h7) h8) h9) h10) h11) h12) h13) h14) h15) h16) h17) h18) h19) h20) h21) h22) h23) h24) h25) h26) h27) h28) h29) h30) h31)
end Go.Proofs.Ytdcijmigoefnjaa
