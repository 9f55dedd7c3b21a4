/- The row of FieldNeeds, out of its call. -/
import Derived.Test.YtdcijmigoefnjaaRows
import Derived.Test.YtdcijmigoefnjaaEvLa
import Derived.Test.YtdcijmigoefnjaaJf
import Derived.Test.YtdcijmigoefnjaaL03c
import Derived.WalkKit
import Derived.ProofKit
import Derived.OpenShut
import Derived.ShutString
import Derived.ChangeOld
import Derived.Below
import Derived.SizedLaws
set_option linter.unusedVariables false
set_option maxRecDepth 100000
namespace Go.Proofs.Ytdcijmigoefnjaa
open Go Go.Ev Go.ChangeShapes Go.WideShapes Go.ChangeAt Go.RowKit
open Go.ChangeMaps (open_string shut_string)
theorem own_FieldNeeds : ownKnob Try.prog.godebug = none := by kernel_rfl
set_option maxRecDepth 100000 in
theorem lifted_FieldNeeds (os : Os) (started : os.Started) (H : Type) (enc : TypeId × Value → H) :
    ReturnsInHanded {} Try.checked os 4 .any (Rows.fieldNeedsSpec.pre6 enc Try.prog Try.f4 Rows.fieldNeedsRow.domain false) (Rows.fieldNeedsSpec.post enc Try.prog Try.f4 false true false false) := by
  refine returnsInHanded_of_change_sized (C := Try.checked) own_FieldNeeds started (by kernel_rfl) Try.func4
    (ChangeSpec.witness6 (enc := enc) (C := Try.checked) false ⟨#[], #[.int .u8 0], []⟩ 8 (by kernel_rfl) (by kernel_rfl) (by kernel_rfl) (by kernel_rfl)) ?_
  intro W base args ds gs before hval0 hW hcnd hsz0 _
  have hval : ∀ (j : Nat) t v, Try.f4.params[j]? = some t → args[j]? = some v → Value.okWide Try.prog W .any base t v := hval0
  have hW' := hW
  obtain ⟨p, q, hA0, hV, rfl, hfz, hnd⟩ := hW
  have hA : DataW.TrodAll enc Try.prog W 0 (fun _ => true) true Try.f4.params.toList args.toList ds p := hA0
  rw [Try.params4] at hA hval
  obtain ⟨v0, vs0, d0, ds0, p0, q0, hargs, rfl, rfl, h0, r0⟩ := trodAll_cons hA
  obtain ⟨rfl, rfl, rfl⟩ := trodAll_nil r0
  obtain rfl : args = #[v0] := by cases args; simp_all
  obtain ⟨rfl, rfl⟩ := trodVars_none hV
  obtain ⟨a0, rfl, rfl, rfl, w0⟩ := open_int Try.underlying5 (hval 0 5 v0 rfl rfl) h0
  clear hA0 hval0 hsz0
  refine (CallsA.below (cFieldNeeds (wf_int w0)) (.cons (.int _ _) (.nil))).mono fun e W' ⟨he, bel⟩ => ?_
  subst he
  exact ⟨_, rfl, _, _, _, [], _, [], hW', trodAll_mk1 (shut_bool Try.underlying4 _), (trodAll_cons_mk (shut_int Try.underlying5 w0) trodAll_mk0), rfl, bel.frame _, fun h => by cases h⟩
set_option maxRecDepth 100000 in
theorem jf0_FieldNeeds : (Rows.fieldNeedsRow.wf (OpenSpec.ofChange Rows.fieldNeedsSpec)) = true := by kernel_rfl
set_option maxRecDepth 100000 in
theorem jf3_FieldNeeds : (Try.f4.params.all (Try.prog.readableRec ·)) = true := by kernel_rfl
set_option maxRecDepth 100000 in
theorem jf4_FieldNeeds : (namedTie Try.prog Rows.fieldNeedsRow.named Rows.fieldNeedsSpec.vars) = true := by kernel_rfl
set_option maxRecDepth 100000 in
theorem jf5_FieldNeeds : ((Rows.fieldNeedsRow.stops == [])) = true := by kernel_rfl
set_option maxRecDepth 100000 in
theorem jf7_FieldNeeds : ((Rows.fieldNeedsRow.knobs == [])) = true := by kernel_rfl
set_option maxRecDepth 100000 in
theorem jf9_FieldNeeds : ((Rows.fieldNeedsRow.inPlace == Try.prog.inPlace 4)) = true := by kernel_rfl
set_option maxRecDepth 100000 in
theorem jf10_FieldNeeds : ((Rows.fieldNeedsRow.unfollowed == Try.prog.unfollowed 4)) = true := by kernel_rfl
set_option maxRecDepth 100000 in
theorem jf11_FieldNeeds : ((Rows.fieldNeedsRow.recurses == Try.prog.recurses 4)) = true := by kernel_rfl
set_option maxRecDepth 100000 in
theorem jf12_FieldNeeds : ((Rows.fieldNeedsRow.named == Try.prog.varsNamed 4)) = true := by kernel_rfl
set_option maxRecDepth 100000 in
theorem jf13_FieldNeeds : ((Rows.fieldNeedsRow.maps == (Try.f4.params.toList ++ Rows.fieldNeedsSpec.plain.varTypes Try.prog).any (Try.prog.mapsRec ·))) = true := by kernel_rfl
set_option maxRecDepth 100000 in
theorem jf14_FieldNeeds : ((Rows.fieldNeedsRow.ifaces == (Try.f4.params.toList ++ Rows.fieldNeedsSpec.plain.varTypes Try.prog).any (Try.prog.ifacesRec ·))) = true := by kernel_rfl
set_option maxRecDepth 100000 in
theorem jf15_FieldNeeds : ((Rows.fieldNeedsRow.mapsOut == Try.prog.mapsAmong Try.f4.resultTypes.toList)) = true := by kernel_rfl
set_option maxRecDepth 100000 in
theorem jf16_FieldNeeds : ((Rows.fieldNeedsRow.loops == (Try.f4.params.toList ++ Rows.fieldNeedsSpec.plain.varTypes Try.prog).any (Try.prog.loopsFrom ·))) = true := by kernel_rfl
set_option maxRecDepth 100000 in
theorem jf17_FieldNeeds : ((Rows.fieldNeedsRow.wideKeys == (Try.f4.params.toList ++ Rows.fieldNeedsSpec.plain.varTypes Try.prog ++ Try.f4.resultTypes.toList).any (Try.prog.wideKeysFrom ·))) = true := by kernel_rfl
set_option maxRecDepth 100000 in
theorem jf18_FieldNeeds : (Rows.fieldNeedsSpec.vars.all (Try.prog.varReadable ·)) = true := by kernel_rfl
set_option maxRecDepth 100000 in
theorem jf19_FieldNeeds : (Try.f4.resultTypes.all (fun t => Try.prog.readableRec t && decide (t < Try.prog.types.size))) = true := by kernel_rfl
set_option maxRecDepth 100000 in
theorem jf20_FieldNeeds : ((Rows.fieldNeedsRow.ifacesOut == Try.f4.resultTypes.toList.any (Try.prog.ifacesRec ·))) = true := by kernel_rfl
set_option maxRecDepth 100000 in
theorem jf21_FieldNeeds : ((Rows.fieldNeedsRow.loopsOut == Try.f4.resultTypes.toList.any (Try.prog.loopsFrom ·))) = true := by kernel_rfl
set_option maxRecDepth 100000 in
theorem jf22_FieldNeeds : ((Rows.fieldNeedsRow.plainKeys == Try.prog.plainKeys)) = true := by kernel_rfl
set_option maxRecDepth 100000 in
theorem jf23_FieldNeeds : (Rows.fieldNeedsRow.shortTexts.isNone) = true := by kernel_rfl
set_option maxRecDepth 100000 in
theorem jf26_FieldNeeds : ((Rows.fieldNeedsRow.lifted == Try.prog.liftsFinal)) = true := by rw [lifts_eq]; rfl
set_option maxRecDepth 100000 in
theorem jf27_FieldNeeds : ((Try.prog.make == some Rows.fieldNeedsRow.make)) = true := by rw [make_eq]; rfl
set_option maxRecDepth 100000 in
theorem jf28_FieldNeeds : ((Rows.fieldNeedsRow.kinds == (if Rows.fieldNeedsRow.domain.isEmpty then [] else Try.f4.params.toList.map fun t => match Try.prog.underlying t with | some (.int k) => some k | _ => none))) = true := by kernel_rfl
set_option maxRecDepth 100000 in
theorem jf29_FieldNeeds : ((Rows.fieldNeedsRow.pinned == Rows.fieldNeedsRow.pinnedBy)) = true := by kernel_rfl
set_option maxRecDepth 100000 in
theorem jf30_FieldNeeds : ((Rows.fieldNeedsRow.veiled == (Try.f4.params.toList ++ Rows.fieldNeedsSpec.plain.varTypes Try.prog ++ Try.f4.resultTypes.toList).any (Try.prog.veiledRec ·))) = true := by kernel_rfl
set_option maxRecDepth 100000 in
theorem jf31_FieldNeeds : (Rows.fieldNeedsRow.veiledFits Try.prog Try.f4.params.toList (Try.f4.params.toList ++ Rows.fieldNeedsSpec.plain.varTypes Try.prog ++ Try.f4.resultTypes.toList)) = true := by kernel_rfl
/-- FieldNeeds holds. -/
theorem fieldNeeds_holds : Rows.FieldNeedsSaid :=
  OpenClaim.holds_of_wide 4 Try.f4 rfl rfl rfl rfl rfl rfl rfl ⟨rfl, rfl, rfl, rfl, rfl⟩ rfl rfl rfl rfl rfl (by kernel_rfl) Try.func4 (joined_of jf0_FieldNeeds jf1 jf2 jf3_FieldNeeds jf4_FieldNeeds jf5_FieldNeeds jf6 jf7_FieldNeeds jf8 jf9_FieldNeeds jf10_FieldNeeds jf11_FieldNeeds jf12_FieldNeeds jf13_FieldNeeds jf14_FieldNeeds jf15_FieldNeeds jf16_FieldNeeds jf17_FieldNeeds jf18_FieldNeeds jf19_FieldNeeds jf20_FieldNeeds jf21_FieldNeeds jf22_FieldNeeds jf23_FieldNeeds jf24 jf25 jf26_FieldNeeds jf27_FieldNeeds jf28_FieldNeeds jf29_FieldNeeds jf30_FieldNeeds jf31_FieldNeeds)
    (of_decide_eq_true (by kernel_rfl)) (by unfold Func.isWrapper; first | (rw [if_pos (by decide +kernel)]; kernel_rfl) | (rw [if_neg (by decide +kernel)]; exact ⟨rfl, rfl⟩))
    (fun os started H enc _ => lifted_FieldNeeds os started H enc)
end Go.Proofs.Ytdcijmigoefnjaa
