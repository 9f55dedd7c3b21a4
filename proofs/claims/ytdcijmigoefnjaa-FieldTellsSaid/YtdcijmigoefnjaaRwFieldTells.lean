/- The row of FieldTells, out of its call. -/
import Derived.Test.YtdcijmigoefnjaaRows
import Derived.Test.YtdcijmigoefnjaaEvLa
import Derived.Test.YtdcijmigoefnjaaJf
import Derived.Test.YtdcijmigoefnjaaL03c
import Derived.WalkKit
import Derived.ProofKit
import Derived.OpenShut
import Derived.ShutString
import Derived.ChangeOld
import Derived.Below
import Derived.SizedLaws
set_option linter.unusedVariables false
set_option maxRecDepth 100000
namespace Go.Proofs.Ytdcijmigoefnjaa
open Go Go.Ev Go.ChangeShapes Go.WideShapes Go.ChangeAt Go.RowKit
open Go.ChangeMaps (open_string shut_string)
theorem own_FieldTells : ownKnob Try.prog.godebug = none := by kernel_rfl
set_option maxRecDepth 100000 in
theorem lifted_FieldTells (os : Os) (started : os.Started) (H : Type) (enc : TypeId × Value → H) :
    ReturnsInHanded {} Try.checked os 7 .any (Rows.fieldTellsSpec.pre6 enc Try.prog Try.f7 Rows.fieldTellsRow.domain false) (Rows.fieldTellsSpec.post enc Try.prog Try.f7 false true false false) := by
  refine returnsInHanded_of_change_sized (C := Try.checked) own_FieldTells started (by kernel_rfl) Try.func7
    (ChangeSpec.witness6 (enc := enc) (C := Try.checked) false ⟨#[], #[.int .i64 0, .int .i64 0], []⟩ 8 (by kernel_rfl) (by kernel_rfl) (by kernel_rfl) (by kernel_rfl)) ?_
  intro W base args ds gs before hval0 hW hcnd hsz0 _
  have hval : ∀ (j : Nat) t v, Try.f7.params[j]? = some t → args[j]? = some v → Value.okWide Try.prog W .any base t v := hval0
  have hW' := hW
  obtain ⟨p, q, hA0, hV, rfl, hfz, hnd⟩ := hW
  have hA : DataW.TrodAll enc Try.prog W 0 (fun _ => true) true Try.f7.params.toList args.toList ds p := hA0
  rw [Try.params7] at hA hval
  obtain ⟨v0, vs0, d0, ds0, p0, q0, hargs, rfl, rfl, h0, r0⟩ := trodAll_cons hA
  obtain ⟨v1, vs1, d1, ds1, p1, q1, rfl, rfl, rfl, h1, r1⟩ := trodAll_cons r0
  obtain ⟨rfl, rfl, rfl⟩ := trodAll_nil r1
  obtain rfl : args = #[v0, v1] := by cases args; simp_all
  obtain ⟨rfl, rfl⟩ := trodVars_none hV
  obtain ⟨a0, rfl, rfl, rfl, w0⟩ := open_int Try.underlying3 (hval 0 3 v0 rfl rfl) h0
  obtain ⟨a1, rfl, rfl, rfl, w1⟩ := open_int Try.underlying3 (hval 1 3 v1 rfl rfl) h1
  clear hA0 hval0 hsz0
  refine (CallsA.below (cFieldTells (wf_int w0) (wf_int w1)) (.cons (.int _ _) (.cons (.int _ _) (.nil)))).mono fun e W' ⟨he, bel⟩ => ?_
  subst he
  exact ⟨_, rfl, _, _, _, [], _, [], hW', trodAll_mk1 (shut_bool Try.underlying4 _), (trodAll_cons_mk (shut_int Try.underlying3 w0) (trodAll_cons_mk (shut_int Try.underlying3 w1) trodAll_mk0)), rfl, bel.frame _, fun h => by cases h⟩
set_option maxRecDepth 100000 in
theorem jf0_FieldTells : (Rows.fieldTellsRow.wf (OpenSpec.ofChange Rows.fieldTellsSpec)) = true := by kernel_rfl
set_option maxRecDepth 100000 in
theorem jf3_FieldTells : (Try.f7.params.all (Try.prog.readableRec ·)) = true := by kernel_rfl
set_option maxRecDepth 100000 in
theorem jf4_FieldTells : (namedTie Try.prog Rows.fieldTellsRow.named Rows.fieldTellsSpec.vars) = true := by kernel_rfl
set_option maxRecDepth 100000 in
theorem jf5_FieldTells : ((Rows.fieldTellsRow.stops == [])) = true := by kernel_rfl
set_option maxRecDepth 100000 in
theorem jf7_FieldTells : ((Rows.fieldTellsRow.knobs == [])) = true := by kernel_rfl
set_option maxRecDepth 100000 in
theorem jf9_FieldTells : ((Rows.fieldTellsRow.inPlace == Try.prog.inPlace 7)) = true := by kernel_rfl
set_option maxRecDepth 100000 in
theorem jf10_FieldTells : ((Rows.fieldTellsRow.unfollowed == Try.prog.unfollowed 7)) = true := by kernel_rfl
set_option maxRecDepth 100000 in
theorem jf11_FieldTells : ((Rows.fieldTellsRow.recurses == Try.prog.recurses 7)) = true := by kernel_rfl
set_option maxRecDepth 100000 in
theorem jf12_FieldTells : ((Rows.fieldTellsRow.named == Try.prog.varsNamed 7)) = true := by kernel_rfl
set_option maxRecDepth 100000 in
theorem jf13_FieldTells : ((Rows.fieldTellsRow.maps == (Try.f7.params.toList ++ Rows.fieldTellsSpec.plain.varTypes Try.prog).any (Try.prog.mapsRec ·))) = true := by kernel_rfl
set_option maxRecDepth 100000 in
theorem jf14_FieldTells : ((Rows.fieldTellsRow.ifaces == (Try.f7.params.toList ++ Rows.fieldTellsSpec.plain.varTypes Try.prog).any (Try.prog.ifacesRec ·))) = true := by kernel_rfl
set_option maxRecDepth 100000 in
theorem jf15_FieldTells : ((Rows.fieldTellsRow.mapsOut == Try.prog.mapsAmong Try.f7.resultTypes.toList)) = true := by kernel_rfl
set_option maxRecDepth 100000 in
theorem jf16_FieldTells : ((Rows.fieldTellsRow.loops == (Try.f7.params.toList ++ Rows.fieldTellsSpec.plain.varTypes Try.prog).any (Try.prog.loopsFrom ·))) = true := by kernel_rfl
set_option maxRecDepth 100000 in
theorem jf17_FieldTells : ((Rows.fieldTellsRow.wideKeys == (Try.f7.params.toList ++ Rows.fieldTellsSpec.plain.varTypes Try.prog ++ Try.f7.resultTypes.toList).any (Try.prog.wideKeysFrom ·))) = true := by kernel_rfl
set_option maxRecDepth 100000 in
theorem jf18_FieldTells : (Rows.fieldTellsSpec.vars.all (Try.prog.varReadable ·)) = true := by kernel_rfl
set_option maxRecDepth 100000 in
theorem jf19_FieldTells : (Try.f7.resultTypes.all (fun t => Try.prog.readableRec t && decide (t < Try.prog.types.size))) = true := by kernel_rfl
set_option maxRecDepth 100000 in
theorem jf20_FieldTells : ((Rows.fieldTellsRow.ifacesOut == Try.f7.resultTypes.toList.any (Try.prog.ifacesRec ·))) = true := by kernel_rfl
set_option maxRecDepth 100000 in
theorem jf21_FieldTells : ((Rows.fieldTellsRow.loopsOut == Try.f7.resultTypes.toList.any (Try.prog.loopsFrom ·))) = true := by kernel_rfl
set_option maxRecDepth 100000 in
theorem jf22_FieldTells : ((Rows.fieldTellsRow.plainKeys == Try.prog.plainKeys)) = true := by kernel_rfl
set_option maxRecDepth 100000 in
theorem jf23_FieldTells : (Rows.fieldTellsRow.shortTexts.isNone) = true := by kernel_rfl
set_option maxRecDepth 100000 in
theorem jf26_FieldTells : ((Rows.fieldTellsRow.lifted == Try.prog.liftsFinal)) = true := by rw [lifts_eq]; rfl
set_option maxRecDepth 100000 in
theorem jf27_FieldTells : ((Try.prog.make == some Rows.fieldTellsRow.make)) = true := by rw [make_eq]; rfl
set_option maxRecDepth 100000 in
theorem jf28_FieldTells : ((Rows.fieldTellsRow.kinds == (if Rows.fieldTellsRow.domain.isEmpty then [] else Try.f7.params.toList.map fun t => match Try.prog.underlying t with | some (.int k) => some k | _ => none))) = true := by kernel_rfl
set_option maxRecDepth 100000 in
theorem jf29_FieldTells : ((Rows.fieldTellsRow.pinned == Rows.fieldTellsRow.pinnedBy)) = true := by kernel_rfl
set_option maxRecDepth 100000 in
theorem jf30_FieldTells : ((Rows.fieldTellsRow.veiled == (Try.f7.params.toList ++ Rows.fieldTellsSpec.plain.varTypes Try.prog ++ Try.f7.resultTypes.toList).any (Try.prog.veiledRec ·))) = true := by kernel_rfl
set_option maxRecDepth 100000 in
theorem jf31_FieldTells : (Rows.fieldTellsRow.veiledFits Try.prog Try.f7.params.toList (Try.f7.params.toList ++ Rows.fieldTellsSpec.plain.varTypes Try.prog ++ Try.f7.resultTypes.toList)) = true := by kernel_rfl
/-- FieldTells holds. -/
theorem fieldTells_holds : Rows.FieldTellsSaid :=
  OpenClaim.holds_of_wide 7 Try.f7 rfl rfl rfl rfl rfl rfl rfl ⟨rfl, rfl, rfl, rfl, rfl⟩ rfl rfl rfl rfl rfl (by kernel_rfl) Try.func7 (joined_of jf0_FieldTells jf1 jf2 jf3_FieldTells jf4_FieldTells jf5_FieldTells jf6 jf7_FieldTells jf8 jf9_FieldTells jf10_FieldTells jf11_FieldTells jf12_FieldTells jf13_FieldTells jf14_FieldTells jf15_FieldTells jf16_FieldTells jf17_FieldTells jf18_FieldTells jf19_FieldTells jf20_FieldTells jf21_FieldTells jf22_FieldTells jf23_FieldTells jf24 jf25 jf26_FieldTells jf27_FieldTells jf28_FieldTells jf29_FieldTells jf30_FieldTells jf31_FieldTells)
    (of_decide_eq_true (by kernel_rfl)) (by unfold Func.isWrapper; first | (rw [if_pos (by decide +kernel)]; kernel_rfl) | (rw [if_neg (by decide +kernel)]; exact ⟨rfl, rfl⟩))
    (fun os started H enc _ => lifted_FieldTells os started H enc)
end Go.Proofs.Ytdcijmigoefnjaa
