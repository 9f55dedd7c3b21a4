import Derived.Test.YtdcijmigoefnjaaRows
import Derived.Test.YtdcijmigoefnjaaEvLa
import Derived.Test.YtdcijmigoefnjaaJf
import Derived.Test.YtdcijmigoefnjaaPlD
import Derived.WalkKit
import Derived.ProofKit
import Derived.OpenShut
import Derived.ShutString
import Derived.ChangeOld
import Derived.Below
import Derived.SizedLaws
/- The row of MatchBack, out of its call. -/
set_option linter.unusedVariables false
set_option maxRecDepth 100000
namespace Go.Proofs.Ytdcijmigoefnjaa
open Go Go.Ev Go.ChangeShapes Go.WideShapes Go.ChangeAt Go.RowKit
open Go.ChangeMaps (open_string shut_string)
theorem own_MatchBack : ownKnob Try.prog.godebug = none := by kernel_rfl
set_option maxRecDepth 100000 in
theorem lifted_MatchBack (os : Os) (started : os.Started) (H : Type) (enc : TypeId × Value → H) :
    ReturnsInHanded {} Try.checked os 22 .any (Rows.matchBackSpec.pre6 enc Try.prog Try.f22 Rows.matchBackRow.domain false) (Rows.matchBackSpec.post enc Try.prog Try.f22 false true false false) := by
  refine returnsInHanded_of_change_sized (C := Try.checked) own_MatchBack started (by kernel_rfl) Try.func22
    (ChangeSpec.witness6 (enc := enc) (C := Try.checked) false ⟨#[], #[.slice none 0 0, .slice none 0 0], []⟩ 8 (by kernel_rfl) (by kernel_rfl) (by kernel_rfl) (by kernel_rfl)) ?_
  intro W base args ds gs before hval0 hW hcnd hsz0 _
  have hval : ∀ (j : Nat) t v, Try.f22.params[j]? = some t → args[j]? = some v → Value.okWide Try.prog W .any base t v := hval0
  have hW' := hW
  obtain ⟨p, q, hA0, hV, rfl, hfz, hnd⟩ := hW
  have hA : DataW.TrodAll enc Try.prog W 0 (fun _ => true) true Try.f22.params.toList args.toList ds p := hA0
  rw [Try.params22] at hA hval
  obtain ⟨v0, vs0, d0, ds0, p0, q0, hargs, rfl, rfl, h0, r0⟩ := trodAll_cons hA
  obtain ⟨v1, vs1, d1, ds1, p1, q1, rfl, rfl, rfl, h1, r1⟩ := trodAll_cons r0
  obtain ⟨rfl, rfl, rfl⟩ := trodAll_nil r1
  obtain rfl : args = #[v0, v1] := by cases args; simp_all
  obtain ⟨rfl, rfl⟩ := trodVars_none hV
  have k0 := h0
  have lt0 : ∀ x ∈ p0, x.block < W.heap.size := by obtain ⟨m, hm⟩ := k0; exact DataW.trod_lt m _ _ _ hm
  obtain ⟨a0, w0, z0, e0⟩ := open_sliceA (d := 9) (ls := [.int .i64, .bool, .int .u64, .int .u64, .int .u64, .int .u64]) Try.underlying84 (by kernel_rfl) (by kernel_rfl) (by decide) h0 (hval 0 84 v0 rfl rfl)
  have k1 := h1
  have lt1 : ∀ x ∈ p1, x.block < W.heap.size := by obtain ⟨m, hm⟩ := k1; exact DataW.trod_lt m _ _ _ hm
  obtain ⟨a1, w1, z1, e1⟩ := open_sliceA (d := 9) (ls := [.int .u8]) Try.underlying52 (by kernel_rfl) (by kernel_rfl) (by decide) h1 (hval 1 52 v1 rfl rfl)
  clear hA0 hval0 hsz0
  refine (CallsA.below (cMatchBack w0 z0 w1 z1) (.cons (e0) (.cons (e1) (.nil)))).mono fun e W' ⟨he, bel⟩ => ?_
  subst he
  exact ⟨_, rfl, _, _, _, [], _, [], hW', trodAll_mk1 (shut_bool Try.underlying4 _), (trodAll_cons_mk (Below.trod jf1 (by kernel_rfl) (of_decide_eq_true (by kernel_rfl)) k0 bel lt0) (trodAll_cons_mk (Below.trod jf1 (by kernel_rfl) (of_decide_eq_true (by kernel_rfl)) k1 bel lt1) trodAll_mk0)), rfl, bel.frame _, fun h => by cases h⟩
set_option maxRecDepth 100000 in
theorem jf0_MatchBack : (Rows.matchBackRow.wf (OpenSpec.ofChange Rows.matchBackSpec)) = true := by kernel_rfl
set_option maxRecDepth 100000 in
theorem jf3_MatchBack : (Try.f22.params.all (Try.prog.readableRec ·)) = true := by kernel_rfl
set_option maxRecDepth 100000 in
theorem jf4_MatchBack : (namedTie Try.prog Rows.matchBackRow.named Rows.matchBackSpec.vars) = true := by kernel_rfl
set_option maxRecDepth 100000 in
theorem jf5_MatchBack : ((Rows.matchBackRow.stops == [])) = true := by kernel_rfl
set_option maxRecDepth 100000 in
theorem jf7_MatchBack : ((Rows.matchBackRow.knobs == [])) = true := by kernel_rfl
set_option maxRecDepth 100000 in
theorem jf9_MatchBack : ((Rows.matchBackRow.inPlace == Try.prog.inPlace 22)) = true := by kernel_rfl
set_option maxRecDepth 100000 in
theorem jf10_MatchBack : ((Rows.matchBackRow.unfollowed == Try.prog.unfollowed 22)) = true := by kernel_rfl
set_option maxRecDepth 100000 in
theorem jf11_MatchBack : ((Rows.matchBackRow.recurses == Try.prog.recurses 22)) = true := by kernel_rfl
set_option maxRecDepth 100000 in
theorem jf12_MatchBack : ((Rows.matchBackRow.named == Try.prog.varsNamed 22)) = true := by kernel_rfl
set_option maxRecDepth 100000 in
theorem jf13_MatchBack : ((Rows.matchBackRow.maps == (Try.f22.params.toList ++ Rows.matchBackSpec.plain.varTypes Try.prog).any (Try.prog.mapsRec ·))) = true := by kernel_rfl
set_option maxRecDepth 100000 in
theorem jf14_MatchBack : ((Rows.matchBackRow.ifaces == (Try.f22.params.toList ++ Rows.matchBackSpec.plain.varTypes Try.prog).any (Try.prog.ifacesRec ·))) = true := by kernel_rfl
set_option maxRecDepth 100000 in
theorem jf15_MatchBack : ((Rows.matchBackRow.mapsOut == Try.prog.mapsAmong Try.f22.resultTypes.toList)) = true := by kernel_rfl
set_option maxRecDepth 100000 in
theorem jf16_MatchBack : ((Rows.matchBackRow.loops == (Try.f22.params.toList ++ Rows.matchBackSpec.plain.varTypes Try.prog).any (Try.prog.loopsFrom ·))) = true := by kernel_rfl
set_option maxRecDepth 100000 in
theorem jf17_MatchBack : ((Rows.matchBackRow.wideKeys == (Try.f22.params.toList ++ Rows.matchBackSpec.plain.varTypes Try.prog ++ Try.f22.resultTypes.toList).any (Try.prog.wideKeysFrom ·))) = true := by kernel_rfl
set_option maxRecDepth 100000 in
theorem jf18_MatchBack : (Rows.matchBackSpec.vars.all (Try.prog.varReadable ·)) = true := by kernel_rfl
set_option maxRecDepth 100000 in
theorem jf19_MatchBack : (Try.f22.resultTypes.all (fun t => Try.prog.readableRec t && decide (t < Try.prog.types.size))) = true := by kernel_rfl
set_option maxRecDepth 100000 in
theorem jf20_MatchBack : ((Rows.matchBackRow.ifacesOut == Try.f22.resultTypes.toList.any (Try.prog.ifacesRec ·))) = true := by kernel_rfl
set_option maxRecDepth 100000 in
theorem jf21_MatchBack : ((Rows.matchBackRow.loopsOut == Try.f22.resultTypes.toList.any (Try.prog.loopsFrom ·))) = true := by kernel_rfl
set_option maxRecDepth 100000 in
theorem jf22_MatchBack : ((Rows.matchBackRow.plainKeys == Try.prog.plainKeys)) = true := by kernel_rfl
set_option maxRecDepth 100000 in
theorem jf23_MatchBack : (Rows.matchBackRow.shortTexts.isNone) = true := by kernel_rfl
set_option maxRecDepth 100000 in
theorem jf26_MatchBack : ((Rows.matchBackRow.lifted == Try.prog.liftsFinal)) = true := by rw [lifts_eq]; rfl
set_option maxRecDepth 100000 in
theorem jf27_MatchBack : ((Try.prog.make == some Rows.matchBackRow.make)) = true := by rw [make_eq]; rfl
set_option maxRecDepth 100000 in
theorem jf28_MatchBack : ((Rows.matchBackRow.kinds == (if Rows.matchBackRow.domain.isEmpty then [] else Try.f22.params.toList.map fun t => match Try.prog.underlying t with | some (.int k) => some k | _ => none))) = true := by kernel_rfl
set_option maxRecDepth 100000 in
theorem jf29_MatchBack : ((Rows.matchBackRow.pinned == Rows.matchBackRow.pinnedBy)) = true := by kernel_rfl
set_option maxRecDepth 100000 in
theorem jf30_MatchBack : ((Rows.matchBackRow.veiled == (Try.f22.params.toList ++ Rows.matchBackSpec.plain.varTypes Try.prog ++ Try.f22.resultTypes.toList).any (Try.prog.veiledRec ·))) = true := by kernel_rfl
set_option maxRecDepth 100000 in
theorem jf31_MatchBack : (Rows.matchBackRow.veiledFits Try.prog Try.f22.params.toList (Try.f22.params.toList ++ Rows.matchBackSpec.plain.varTypes Try.prog ++ Try.f22.resultTypes.toList)) = true := by kernel_rfl
/-- MatchBack holds. -/
theorem matchBack_holds : Rows.MatchBackSaid :=
  OpenClaim.holds_of_wide 22 Try.f22 rfl rfl rfl rfl rfl rfl rfl ⟨rfl, rfl, rfl, rfl, rfl⟩ rfl rfl rfl rfl rfl (by kernel_rfl) Try.func22 (joined_of jf0_MatchBack jf1 jf2 jf3_MatchBack jf4_MatchBack jf5_MatchBack jf6 jf7_MatchBack jf8 jf9_MatchBack jf10_MatchBack jf11_MatchBack jf12_MatchBack jf13_MatchBack jf14_MatchBack jf15_MatchBack jf16_MatchBack jf17_MatchBack jf18_MatchBack jf19_MatchBack jf20_MatchBack jf21_MatchBack jf22_MatchBack jf23_MatchBack jf24 jf25 jf26_MatchBack jf27_MatchBack jf28_MatchBack jf29_MatchBack jf30_MatchBack jf31_MatchBack)
    (of_decide_eq_true (by kernel_rfl)) (by unfold Func.isWrapper; first | (rw [if_pos (by decide +kernel)]; kernel_rfl) | (rw [if_neg (by decide +kernel)]; exact ⟨rfl, rfl⟩))
    (fun os started H enc _ => lifted_MatchBack os started H enc)
end Go.Proofs.Ytdcijmigoefnjaa
