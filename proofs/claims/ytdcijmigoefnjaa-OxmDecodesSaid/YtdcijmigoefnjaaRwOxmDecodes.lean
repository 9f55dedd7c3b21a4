/- The row of OxmDecodes, out of its call. -/
import Derived.Test.YtdcijmigoefnjaaRows
import Derived.Test.YtdcijmigoefnjaaEvLa
import Derived.Test.YtdcijmigoefnjaaJf
import Derived.Test.YtdcijmigoefnjaaL10c
import Derived.WalkKit
import Derived.ProofKit
import Derived.OpenShut
import Derived.ShutString
import Derived.ChangeOld
import Derived.Below
import Derived.SizedLaws
set_option linter.unusedVariables false
set_option maxRecDepth 100000
namespace Go.Proofs.Ytdcijmigoefnjaa
open Go Go.Ev Go.ChangeShapes Go.WideShapes Go.ChangeAt Go.RowKit
open Go.ChangeMaps (open_string shut_string)
theorem own_OxmDecodes : ownKnob Try.prog.godebug = none := by kernel_rfl
set_option maxRecDepth 100000 in
theorem lifted_OxmDecodes (os : Os) (started : os.Started) (H : Type) (enc : TypeId × Value → H) :
    ReturnsInHanded {} Try.checked os 10 .any (Rows.oxmDecodesSpec.pre6 enc Try.prog Try.f10 Rows.oxmDecodesRow.domain false) (Rows.oxmDecodesSpec.post enc Try.prog Try.f10 false true false false) := by
  refine returnsInHanded_of_change_sized (C := Try.checked) own_OxmDecodes started (by kernel_rfl) Try.func10
    (ChangeSpec.witness6 (enc := enc) (C := Try.checked) false ⟨#[], #[.slice none 0 0], []⟩ 8 (by kernel_rfl) (by kernel_rfl) (by kernel_rfl) (by kernel_rfl)) ?_
  intro W base args ds gs before hval0 hW hcnd hsz0 _
  have hval : ∀ (j : Nat) t v, Try.f10.params[j]? = some t → args[j]? = some v → Value.okWide Try.prog W .any base t v := hval0
  have hW' := hW
  obtain ⟨p, q, hA0, hV, rfl, hfz, hnd⟩ := hW
  have hA : DataW.TrodAll enc Try.prog W 0 (fun _ => true) true Try.f10.params.toList args.toList ds p := hA0
  rw [Try.params10] at hA hval
  obtain ⟨v0, vs0, d0, ds0, p0, q0, hargs, rfl, rfl, h0, r0⟩ := trodAll_cons hA
  obtain ⟨rfl, rfl, rfl⟩ := trodAll_nil r0
  obtain rfl : args = #[v0] := by cases args; simp_all
  obtain ⟨rfl, rfl⟩ := trodVars_none hV
  have k0 := h0
  have lt0 : ∀ x ∈ p0, x.block < W.heap.size := by obtain ⟨m, hm⟩ := k0; exact DataW.trod_lt m _ _ _ hm
  obtain ⟨a0, w0, z0, e0⟩ := open_sliceA (d := 9) (ls := [.int .u8]) Try.underlying52 (by kernel_rfl) (by kernel_rfl) (by decide) h0 (hval 0 52 v0 rfl rfl)
  clear hA0 hval0 hsz0
  refine (CallsA.below (cOxmDecodes w0 z0) (.cons (e0) (.nil))).mono fun e W' ⟨he, bel⟩ => ?_
  subst he
  exact ⟨_, rfl, _, _, _, [], _, [], hW', trodAll_mk1 (shut_bool Try.underlying4 _), (trodAll_cons_mk (Below.trod jf1 (by kernel_rfl) (of_decide_eq_true (by kernel_rfl)) k0 bel lt0) trodAll_mk0), rfl, bel.frame _, fun h => by cases h⟩
set_option maxRecDepth 100000 in
theorem jf0_OxmDecodes : (Rows.oxmDecodesRow.wf (OpenSpec.ofChange Rows.oxmDecodesSpec)) = true := by kernel_rfl
set_option maxRecDepth 100000 in
theorem jf3_OxmDecodes : (Try.f10.params.all (Try.prog.readableRec ·)) = true := by kernel_rfl
set_option maxRecDepth 100000 in
theorem jf4_OxmDecodes : (namedTie Try.prog Rows.oxmDecodesRow.named Rows.oxmDecodesSpec.vars) = true := by kernel_rfl
set_option maxRecDepth 100000 in
theorem jf5_OxmDecodes : ((Rows.oxmDecodesRow.stops == [])) = true := by kernel_rfl
set_option maxRecDepth 100000 in
theorem jf7_OxmDecodes : ((Rows.oxmDecodesRow.knobs == [])) = true := by kernel_rfl
set_option maxRecDepth 100000 in
theorem jf9_OxmDecodes : ((Rows.oxmDecodesRow.inPlace == Try.prog.inPlace 10)) = true := by kernel_rfl
set_option maxRecDepth 100000 in
theorem jf10_OxmDecodes : ((Rows.oxmDecodesRow.unfollowed == Try.prog.unfollowed 10)) = true := by kernel_rfl
set_option maxRecDepth 100000 in
theorem jf11_OxmDecodes : ((Rows.oxmDecodesRow.recurses == Try.prog.recurses 10)) = true := by kernel_rfl
set_option maxRecDepth 100000 in
theorem jf12_OxmDecodes : ((Rows.oxmDecodesRow.named == Try.prog.varsNamed 10)) = true := by kernel_rfl
set_option maxRecDepth 100000 in
theorem jf13_OxmDecodes : ((Rows.oxmDecodesRow.maps == (Try.f10.params.toList ++ Rows.oxmDecodesSpec.plain.varTypes Try.prog).any (Try.prog.mapsRec ·))) = true := by kernel_rfl
set_option maxRecDepth 100000 in
theorem jf14_OxmDecodes : ((Rows.oxmDecodesRow.ifaces == (Try.f10.params.toList ++ Rows.oxmDecodesSpec.plain.varTypes Try.prog).any (Try.prog.ifacesRec ·))) = true := by kernel_rfl
set_option maxRecDepth 100000 in
theorem jf15_OxmDecodes : ((Rows.oxmDecodesRow.mapsOut == Try.prog.mapsAmong Try.f10.resultTypes.toList)) = true := by kernel_rfl
set_option maxRecDepth 100000 in
theorem jf16_OxmDecodes : ((Rows.oxmDecodesRow.loops == (Try.f10.params.toList ++ Rows.oxmDecodesSpec.plain.varTypes Try.prog).any (Try.prog.loopsFrom ·))) = true := by kernel_rfl
set_option maxRecDepth 100000 in
theorem jf17_OxmDecodes : ((Rows.oxmDecodesRow.wideKeys == (Try.f10.params.toList ++ Rows.oxmDecodesSpec.plain.varTypes Try.prog ++ Try.f10.resultTypes.toList).any (Try.prog.wideKeysFrom ·))) = true := by kernel_rfl
set_option maxRecDepth 100000 in
theorem jf18_OxmDecodes : (Rows.oxmDecodesSpec.vars.all (Try.prog.varReadable ·)) = true := by kernel_rfl
set_option maxRecDepth 100000 in
theorem jf19_OxmDecodes : (Try.f10.resultTypes.all (fun t => Try.prog.readableRec t && decide (t < Try.prog.types.size))) = true := by kernel_rfl
set_option maxRecDepth 100000 in
theorem jf20_OxmDecodes : ((Rows.oxmDecodesRow.ifacesOut == Try.f10.resultTypes.toList.any (Try.prog.ifacesRec ·))) = true := by kernel_rfl
set_option maxRecDepth 100000 in
theorem jf21_OxmDecodes : ((Rows.oxmDecodesRow.loopsOut == Try.f10.resultTypes.toList.any (Try.prog.loopsFrom ·))) = true := by kernel_rfl
set_option maxRecDepth 100000 in
theorem jf22_OxmDecodes : ((Rows.oxmDecodesRow.plainKeys == Try.prog.plainKeys)) = true := by kernel_rfl
set_option maxRecDepth 100000 in
theorem jf23_OxmDecodes : (Rows.oxmDecodesRow.shortTexts.isNone) = true := by kernel_rfl
set_option maxRecDepth 100000 in
theorem jf26_OxmDecodes : ((Rows.oxmDecodesRow.lifted == Try.prog.liftsFinal)) = true := by rw [lifts_eq]; rfl
set_option maxRecDepth 100000 in
theorem jf27_OxmDecodes : ((Try.prog.make == some Rows.oxmDecodesRow.make)) = true := by rw [make_eq]; rfl
set_option maxRecDepth 100000 in
theorem jf28_OxmDecodes : ((Rows.oxmDecodesRow.kinds == (if Rows.oxmDecodesRow.domain.isEmpty then [] else Try.f10.params.toList.map fun t => match Try.prog.underlying t with | some (.int k) => some k | _ => none))) = true := by kernel_rfl
set_option maxRecDepth 100000 in
theorem jf29_OxmDecodes : ((Rows.oxmDecodesRow.pinned == Rows.oxmDecodesRow.pinnedBy)) = true := by kernel_rfl
set_option maxRecDepth 100000 in
theorem jf30_OxmDecodes : ((Rows.oxmDecodesRow.veiled == (Try.f10.params.toList ++ Rows.oxmDecodesSpec.plain.varTypes Try.prog ++ Try.f10.resultTypes.toList).any (Try.prog.veiledRec ·))) = true := by kernel_rfl
set_option maxRecDepth 100000 in
theorem jf31_OxmDecodes : (Rows.oxmDecodesRow.veiledFits Try.prog Try.f10.params.toList (Try.f10.params.toList ++ Rows.oxmDecodesSpec.plain.varTypes Try.prog ++ Try.f10.resultTypes.toList)) = true := by kernel_rfl
/-- OxmDecodes holds. -/
theorem oxmDecodes_holds : Rows.OxmDecodesSaid :=
  OpenClaim.holds_of_wide 10 Try.f10 rfl rfl rfl rfl rfl rfl rfl ⟨rfl, rfl, rfl, rfl, rfl⟩ rfl rfl rfl rfl rfl (by kernel_rfl) Try.func10 (joined_of jf0_OxmDecodes jf1 jf2 jf3_OxmDecodes jf4_OxmDecodes jf5_OxmDecodes jf6 jf7_OxmDecodes jf8 jf9_OxmDecodes jf10_OxmDecodes jf11_OxmDecodes jf12_OxmDecodes jf13_OxmDecodes jf14_OxmDecodes jf15_OxmDecodes jf16_OxmDecodes jf17_OxmDecodes jf18_OxmDecodes jf19_OxmDecodes jf20_OxmDecodes jf21_OxmDecodes jf22_OxmDecodes jf23_OxmDecodes jf24 jf25 jf26_OxmDecodes jf27_OxmDecodes jf28_OxmDecodes jf29_OxmDecodes jf30_OxmDecodes jf31_OxmDecodes)
    (of_decide_eq_true (by kernel_rfl)) (by unfold Func.isWrapper; first | (rw [if_pos (by decide +kernel)]; kernel_rfl) | (rw [if_neg (by decide +kernel)]; exact ⟨rfl, rfl⟩))
    (fun os started H enc _ => lifted_OxmDecodes os started H enc)
end Go.Proofs.Ytdcijmigoefnjaa
