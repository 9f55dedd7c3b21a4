import Derived.Test.YtdcijmigoefnjaaRows
import Derived.Test.YtdcijmigoefnjaaEvLa
import Derived.Test.YtdcijmigoefnjaaJf
import Derived.Test.YtdcijmigoefnjaaL11o
import Derived.WalkKit
import Derived.ProofKit
import Derived.OpenShut
import Derived.ShutString
import Derived.ChangeOld
import Derived.Below
import Derived.SizedLaws
/- The row of MatchDecodes, out of its call. -/
set_option linter.unusedVariables false
set_option maxRecDepth 100000
namespace Go.Proofs.Ytdcijmigoefnjaa
open Go Go.Ev Go.ChangeShapes Go.WideShapes Go.ChangeAt Go.RowKit
open Go.ChangeMaps (open_string shut_string)
theorem own_MatchDecodes : ownKnob Try.prog.godebug = none := by kernel_rfl
set_option maxRecDepth 100000 in
theorem lifted_MatchDecodes (os : Os) (started : os.Started) (H : Type) (enc : TypeId × Value → H) :
    ReturnsInHanded {} Try.checked os 19 .any (Rows.matchDecodesSpec.pre6 enc Try.prog Try.f19 Rows.matchDecodesRow.domain false) (Rows.matchDecodesSpec.post enc Try.prog Try.f19 false true false false) := by
  refine returnsInHanded_of_change_sized (C := Try.checked) own_MatchDecodes started (by kernel_rfl) Try.func19
    (ChangeSpec.witness6 (enc := enc) (C := Try.checked) false ⟨#[], #[.slice none 0 0], []⟩ 8 (by kernel_rfl) (by kernel_rfl) (by kernel_rfl) (by kernel_rfl)) ?_
  intro W base args ds gs before hval0 hW hcnd hsz0 _
  have hval : ∀ (j : Nat) t v, Try.f19.params[j]? = some t → args[j]? = some v → Value.okWide Try.prog W .any base t v := hval0
  have hW' := hW
  obtain ⟨p, q, hA0, hV, rfl, hfz, hnd⟩ := hW
  have hA : DataW.TrodAll enc Try.prog W 0 (fun _ => true) true Try.f19.params.toList args.toList ds p := hA0
  rw [Try.params19] at hA hval
  obtain ⟨v0, vs0, d0, ds0, p0, q0, hargs, rfl, rfl, h0, r0⟩ := trodAll_cons hA
  obtain ⟨rfl, rfl, rfl⟩ := trodAll_nil r0
  obtain rfl : args = #[v0] := by cases args; simp_all
  obtain ⟨rfl, rfl⟩ := trodVars_none hV
  have k0 := h0
  have lt0 : ∀ x ∈ p0, x.block < W.heap.size := by obtain ⟨m, hm⟩ := k0; exact DataW.trod_lt m _ _ _ hm
  obtain ⟨a0, w0, z0, e0⟩ := open_sliceA (d := 9) (ls := [.int .u8]) Try.underlying52 (by kernel_rfl) (by kernel_rfl) (by decide) h0 (hval 0 52 v0 rfl rfl)
  clear hA0 hval0 hsz0
  refine (CallsA.below (cMatchDecodes w0 z0) (.cons (e0) (.nil))).mono fun e W' ⟨he, bel⟩ => ?_
  subst he
  exact ⟨_, rfl, _, _, _, [], _, [], hW', trodAll_mk1 (shut_bool Try.underlying4 _), (trodAll_cons_mk (Below.trod jf1 (by kernel_rfl) (of_decide_eq_true (by kernel_rfl)) k0 bel lt0) trodAll_mk0), rfl, bel.frame _, fun h => by cases h⟩
set_option maxRecDepth 100000 in
theorem jf0_MatchDecodes : (Rows.matchDecodesRow.wf (OpenSpec.ofChange Rows.matchDecodesSpec)) = true := by kernel_rfl
set_option maxRecDepth 100000 in
theorem jf3_MatchDecodes : (Try.f19.params.all (Try.prog.readableRec ·)) = true := by kernel_rfl
set_option maxRecDepth 100000 in
theorem jf4_MatchDecodes : (namedTie Try.prog Rows.matchDecodesRow.named Rows.matchDecodesSpec.vars) = true := by kernel_rfl
set_option maxRecDepth 100000 in
theorem jf5_MatchDecodes : ((Rows.matchDecodesRow.stops == [])) = true := by kernel_rfl
set_option maxRecDepth 100000 in
theorem jf7_MatchDecodes : ((Rows.matchDecodesRow.knobs == [])) = true := by kernel_rfl
set_option maxRecDepth 100000 in
theorem jf9_MatchDecodes : ((Rows.matchDecodesRow.inPlace == Try.prog.inPlace 19)) = true := by kernel_rfl
set_option maxRecDepth 100000 in
theorem jf10_MatchDecodes : ((Rows.matchDecodesRow.unfollowed == Try.prog.unfollowed 19)) = true := by kernel_rfl
set_option maxRecDepth 100000 in
theorem jf11_MatchDecodes : ((Rows.matchDecodesRow.recurses == Try.prog.recurses 19)) = true := by kernel_rfl
set_option maxRecDepth 100000 in
theorem jf12_MatchDecodes : ((Rows.matchDecodesRow.named == Try.prog.varsNamed 19)) = true := by kernel_rfl
set_option maxRecDepth 100000 in
theorem jf13_MatchDecodes : ((Rows.matchDecodesRow.maps == (Try.f19.params.toList ++ Rows.matchDecodesSpec.plain.varTypes Try.prog).any (Try.prog.mapsRec ·))) = true := by kernel_rfl
set_option maxRecDepth 100000 in
theorem jf14_MatchDecodes : ((Rows.matchDecodesRow.ifaces == (Try.f19.params.toList ++ Rows.matchDecodesSpec.plain.varTypes Try.prog).any (Try.prog.ifacesRec ·))) = true := by kernel_rfl
set_option maxRecDepth 100000 in
theorem jf15_MatchDecodes : ((Rows.matchDecodesRow.mapsOut == Try.prog.mapsAmong Try.f19.resultTypes.toList)) = true := by kernel_rfl
set_option maxRecDepth 100000 in
theorem jf16_MatchDecodes : ((Rows.matchDecodesRow.loops == (Try.f19.params.toList ++ Rows.matchDecodesSpec.plain.varTypes Try.prog).any (Try.prog.loopsFrom ·))) = true := by kernel_rfl
set_option maxRecDepth 100000 in
theorem jf17_MatchDecodes : ((Rows.matchDecodesRow.wideKeys == (Try.f19.params.toList ++ Rows.matchDecodesSpec.plain.varTypes Try.prog ++ Try.f19.resultTypes.toList).any (Try.prog.wideKeysFrom ·))) = true := by kernel_rfl
set_option maxRecDepth 100000 in
theorem jf18_MatchDecodes : (Rows.matchDecodesSpec.vars.all (Try.prog.varReadable ·)) = true := by kernel_rfl
set_option maxRecDepth 100000 in
theorem jf19_MatchDecodes : (Try.f19.resultTypes.all (fun t => Try.prog.readableRec t && decide (t < Try.prog.types.size))) = true := by kernel_rfl
set_option maxRecDepth 100000 in
theorem jf20_MatchDecodes : ((Rows.matchDecodesRow.ifacesOut == Try.f19.resultTypes.toList.any (Try.prog.ifacesRec ·))) = true := by kernel_rfl
set_option maxRecDepth 100000 in
theorem jf21_MatchDecodes : ((Rows.matchDecodesRow.loopsOut == Try.f19.resultTypes.toList.any (Try.prog.loopsFrom ·))) = true := by kernel_rfl
set_option maxRecDepth 100000 in
theorem jf22_MatchDecodes : ((Rows.matchDecodesRow.plainKeys == Try.prog.plainKeys)) = true := by kernel_rfl
set_option maxRecDepth 100000 in
theorem jf23_MatchDecodes : (Rows.matchDecodesRow.shortTexts.isNone) = true := by kernel_rfl
set_option maxRecDepth 100000 in
theorem jf26_MatchDecodes : ((Rows.matchDecodesRow.lifted == Try.prog.liftsFinal)) = true := by rw [lifts_eq]; rfl
set_option maxRecDepth 100000 in
theorem jf27_MatchDecodes : ((Try.prog.make == some Rows.matchDecodesRow.make)) = true := by rw [make_eq]; rfl
set_option maxRecDepth 100000 in
theorem jf28_MatchDecodes : ((Rows.matchDecodesRow.kinds == (if Rows.matchDecodesRow.domain.isEmpty then [] else Try.f19.params.toList.map fun t => match Try.prog.underlying t with | some (.int k) => some k | _ => none))) = true := by kernel_rfl
set_option maxRecDepth 100000 in
theorem jf29_MatchDecodes : ((Rows.matchDecodesRow.pinned == Rows.matchDecodesRow.pinnedBy)) = true := by kernel_rfl
set_option maxRecDepth 100000 in
theorem jf30_MatchDecodes : ((Rows.matchDecodesRow.veiled == (Try.f19.params.toList ++ Rows.matchDecodesSpec.plain.varTypes Try.prog ++ Try.f19.resultTypes.toList).any (Try.prog.veiledRec ·))) = true := by kernel_rfl
set_option maxRecDepth 100000 in
theorem jf31_MatchDecodes : (Rows.matchDecodesRow.veiledFits Try.prog Try.f19.params.toList (Try.f19.params.toList ++ Rows.matchDecodesSpec.plain.varTypes Try.prog ++ Try.f19.resultTypes.toList)) = true := by kernel_rfl
/-- MatchDecodes holds. -/
theorem matchDecodes_holds : Rows.MatchDecodesSaid :=
  OpenClaim.holds_of_wide 19 Try.f19 rfl rfl rfl rfl rfl rfl rfl ⟨rfl, rfl, rfl, rfl, rfl⟩ rfl rfl rfl rfl rfl (by kernel_rfl) Try.func19 (joined_of jf0_MatchDecodes jf1 jf2 jf3_MatchDecodes jf4_MatchDecodes jf5_MatchDecodes jf6 jf7_MatchDecodes jf8 jf9_MatchDecodes jf10_MatchDecodes jf11_MatchDecodes jf12_MatchDecodes jf13_MatchDecodes jf14_MatchDecodes jf15_MatchDecodes jf16_MatchDecodes jf17_MatchDecodes jf18_MatchDecodes jf19_MatchDecodes jf20_MatchDecodes jf21_MatchDecodes jf22_MatchDecodes jf23_MatchDecodes jf24 jf25 jf26_MatchDecodes jf27_MatchDecodes jf28_MatchDecodes jf29_MatchDecodes jf30_MatchDecodes jf31_MatchDecodes)
    (of_decide_eq_true (by kernel_rfl)) (by unfold Func.isWrapper; first | (rw [if_pos (by decide +kernel)]; kernel_rfl) | (rw [if_neg (by decide +kernel)]; exact ⟨rfl, rfl⟩))
    (fun os started H enc _ => lifted_MatchDecodes os started H enc)
end Go.Proofs.Ytdcijmigoefnjaa
