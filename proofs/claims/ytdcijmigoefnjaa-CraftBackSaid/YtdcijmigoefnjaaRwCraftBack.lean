import Derived.Test.YtdcijmigoefnjaaRows
import Derived.Test.YtdcijmigoefnjaaEvLa
import Derived.Test.YtdcijmigoefnjaaJf
import Derived.Test.YtdcijmigoefnjaaL46d
import Derived.WalkKit
import Derived.ProofKit
import Derived.OpenShut
import Derived.ShutString
import Derived.ChangeOld
import Derived.Below
import Derived.SizedLaws
/- The row of CraftBack, out of its call. -/
set_option linter.unusedVariables false
set_option maxRecDepth 100000
namespace Go.Proofs.Ytdcijmigoefnjaa
open Go Go.Ev Go.ChangeShapes Go.WideShapes Go.ChangeAt Go.RowKit
open Go.ChangeMaps (open_string shut_string)
theorem own_CraftBack : ownKnob Try.prog.godebug = none := by kernel_rfl
set_option maxRecDepth 100000 in
theorem lifted_CraftBack (os : Os) (started : os.Started) (H : Type) (enc : TypeId × Value → H) :
    ReturnsInHanded {} Try.checked os 23 .any (Rows.craftBackSpec.pre6 enc Try.prog Try.f23 Rows.craftBackRow.domain false) (Rows.craftBackSpec.post enc Try.prog Try.f23 false true false false) := by
  refine returnsInHanded_of_change_sized (C := Try.checked) own_CraftBack started (by kernel_rfl) Try.func23
    (ChangeSpec.witness6 (enc := enc) (C := Try.checked) false ⟨#[], #[.agg #[.int .u64 0, .int .u64 0, .int .u64 0, .int .u64 0, .int .u64 0, .int .u64 0, .int .u64 0, .int .u64 0, .int .u64 0, .int .u64 0, .int .u64 0, .int .u64 0, .int .u64 0, .int .u64 0, .int .u64 0, .int .u64 0, .int .u64 0, .int .u64 0, .int .u64 0, .int .u64 0, .int .u64 0, .int .u64 0, .int .u64 0, .int .u64 0, .int .u64 0, .int .u64 0, .int .u64 0, .int .u64 0, .int .u64 0, .int .u64 0, .int .u64 0, .int .u64 0, .int .u64 0, .int .u64 0, .int .u64 0, .int .u64 0, .int .u64 0, .int .u64 0, .int .u64 0, .int .u64 0, .int .u64 0, .int .u64 0, .int .u64 0, .int .u64 0, .int .u64 0, .int .u64 0, .int .u64 0, .int .u64 0]], []⟩ 8 (by kernel_rfl) (by kernel_rfl) (by kernel_rfl) (by kernel_rfl)) ?_
  intro W base args ds gs before hval0 hW hcnd hsz0 _
  have hval : ∀ (j : Nat) t v, Try.f23.params[j]? = some t → args[j]? = some v → Value.okWide Try.prog W .any base t v := hval0
  have hW' := hW
  obtain ⟨p, q, hA0, hV, rfl, hfz, hnd⟩ := hW
  have hA : DataW.TrodAll enc Try.prog W 0 (fun _ => true) true Try.f23.params.toList args.toList ds p := hA0
  rw [Try.params23] at hA hval
  obtain ⟨v0, vs0, d0, ds0, p0, q0, hargs, rfl, rfl, h0, r0⟩ := trodAll_cons hA
  obtain ⟨rfl, rfl, rfl⟩ := trodAll_nil r0
  obtain rfl : args = #[v0] := by cases args; simp_all
  obtain ⟨rfl, rfl⟩ := trodVars_none hV
  have k0 := h0
  have lt0 : ∀ x ∈ p0, x.block < W.heap.size := by obtain ⟨m, hm⟩ := k0; exact DataW.trod_lt m _ _ _ hm
  have g0 : ∃ cs, v0 = .agg cs := by
    have := (hval 0 39 v0 rfl rfl)
    simp only [Value.okWide, Try.underlying39] at this
    obtain ⟨cs, h, _⟩ := this
    exact ⟨cs, h⟩
  obtain ⟨a0, w0, e0⟩ := open_aggA (S := AllS W) (ws := W) (d := 9) (ls := (repL 24 [.int .u64, .int .u64])) h0 (by kernel_rfl) g0
  clear hA0 hval0 hsz0
  refine (CallsA.below (cCraftBack w0) (.cons (e0) (.nil))).mono fun e W' ⟨he, bel⟩ => ?_
  subst he
  exact ⟨_, rfl, _, _, _, [], _, [], hW', trodAll_mk1 (shut_bool Try.underlying4 _), (trodAll_cons_mk (Below.trod jf1 (by kernel_rfl) (of_decide_eq_true (by kernel_rfl)) k0 bel lt0) trodAll_mk0), rfl, bel.frame _, fun h => by cases h⟩
set_option maxRecDepth 100000 in
theorem jf0_CraftBack : (Rows.craftBackRow.wf (OpenSpec.ofChange Rows.craftBackSpec)) = true := by kernel_rfl
set_option maxRecDepth 100000 in
theorem jf3_CraftBack : (Try.f23.params.all (Try.prog.readableRec ·)) = true := by kernel_rfl
set_option maxRecDepth 100000 in
theorem jf4_CraftBack : (namedTie Try.prog Rows.craftBackRow.named Rows.craftBackSpec.vars) = true := by kernel_rfl
set_option maxRecDepth 100000 in
theorem jf5_CraftBack : ((Rows.craftBackRow.stops == [])) = true := by kernel_rfl
set_option maxRecDepth 100000 in
theorem jf7_CraftBack : ((Rows.craftBackRow.knobs == [])) = true := by kernel_rfl
set_option maxRecDepth 100000 in
theorem jf9_CraftBack : ((Rows.craftBackRow.inPlace == Try.prog.inPlace 23)) = true := by kernel_rfl
set_option maxRecDepth 100000 in
theorem jf10_CraftBack : ((Rows.craftBackRow.unfollowed == Try.prog.unfollowed 23)) = true := by kernel_rfl
set_option maxRecDepth 100000 in
theorem jf11_CraftBack : ((Rows.craftBackRow.recurses == Try.prog.recurses 23)) = true := by kernel_rfl
set_option maxRecDepth 100000 in
theorem jf12_CraftBack : ((Rows.craftBackRow.named == Try.prog.varsNamed 23)) = true := by kernel_rfl
set_option maxRecDepth 100000 in
theorem jf13_CraftBack : ((Rows.craftBackRow.maps == (Try.f23.params.toList ++ Rows.craftBackSpec.plain.varTypes Try.prog).any (Try.prog.mapsRec ·))) = true := by kernel_rfl
set_option maxRecDepth 100000 in
theorem jf14_CraftBack : ((Rows.craftBackRow.ifaces == (Try.f23.params.toList ++ Rows.craftBackSpec.plain.varTypes Try.prog).any (Try.prog.ifacesRec ·))) = true := by kernel_rfl
set_option maxRecDepth 100000 in
theorem jf15_CraftBack : ((Rows.craftBackRow.mapsOut == Try.prog.mapsAmong Try.f23.resultTypes.toList)) = true := by kernel_rfl
set_option maxRecDepth 100000 in
theorem jf16_CraftBack : ((Rows.craftBackRow.loops == (Try.f23.params.toList ++ Rows.craftBackSpec.plain.varTypes Try.prog).any (Try.prog.loopsFrom ·))) = true := by kernel_rfl
set_option maxRecDepth 100000 in
theorem jf17_CraftBack : ((Rows.craftBackRow.wideKeys == (Try.f23.params.toList ++ Rows.craftBackSpec.plain.varTypes Try.prog ++ Try.f23.resultTypes.toList).any (Try.prog.wideKeysFrom ·))) = true := by kernel_rfl
set_option maxRecDepth 100000 in
theorem jf18_CraftBack : (Rows.craftBackSpec.vars.all (Try.prog.varReadable ·)) = true := by kernel_rfl
set_option maxRecDepth 100000 in
theorem jf19_CraftBack : (Try.f23.resultTypes.all (fun t => Try.prog.readableRec t && decide (t < Try.prog.types.size))) = true := by kernel_rfl
set_option maxRecDepth 100000 in
theorem jf20_CraftBack : ((Rows.craftBackRow.ifacesOut == Try.f23.resultTypes.toList.any (Try.prog.ifacesRec ·))) = true := by kernel_rfl
set_option maxRecDepth 100000 in
theorem jf21_CraftBack : ((Rows.craftBackRow.loopsOut == Try.f23.resultTypes.toList.any (Try.prog.loopsFrom ·))) = true := by kernel_rfl
set_option maxRecDepth 100000 in
theorem jf22_CraftBack : ((Rows.craftBackRow.plainKeys == Try.prog.plainKeys)) = true := by kernel_rfl
set_option maxRecDepth 100000 in
theorem jf23_CraftBack : (Rows.craftBackRow.shortTexts.isNone) = true := by kernel_rfl
set_option maxRecDepth 100000 in
theorem jf26_CraftBack : ((Rows.craftBackRow.lifted == Try.prog.liftsFinal)) = true := by rw [lifts_eq]; rfl
set_option maxRecDepth 100000 in
theorem jf27_CraftBack : ((Try.prog.make == some Rows.craftBackRow.make)) = true := by rw [make_eq]; rfl
set_option maxRecDepth 100000 in
theorem jf28_CraftBack : ((Rows.craftBackRow.kinds == (if Rows.craftBackRow.domain.isEmpty then [] else Try.f23.params.toList.map fun t => match Try.prog.underlying t with | some (.int k) => some k | _ => none))) = true := by kernel_rfl
set_option maxRecDepth 100000 in
theorem jf29_CraftBack : ((Rows.craftBackRow.pinned == Rows.craftBackRow.pinnedBy)) = true := by kernel_rfl
set_option maxRecDepth 100000 in
theorem jf30_CraftBack : ((Rows.craftBackRow.veiled == (Try.f23.params.toList ++ Rows.craftBackSpec.plain.varTypes Try.prog ++ Try.f23.resultTypes.toList).any (Try.prog.veiledRec ·))) = true := by kernel_rfl
set_option maxRecDepth 100000 in
theorem jf31_CraftBack : (Rows.craftBackRow.veiledFits Try.prog Try.f23.params.toList (Try.f23.params.toList ++ Rows.craftBackSpec.plain.varTypes Try.prog ++ Try.f23.resultTypes.toList)) = true := by kernel_rfl
/-- CraftBack holds. -/
theorem craftBack_holds : Rows.CraftBackSaid :=
  OpenClaim.holds_of_wide 23 Try.f23 rfl rfl rfl rfl rfl rfl rfl ⟨rfl, rfl, rfl, rfl, rfl⟩ rfl rfl rfl rfl rfl (by kernel_rfl) Try.func23 (joined_of jf0_CraftBack jf1 jf2 jf3_CraftBack jf4_CraftBack jf5_CraftBack jf6 jf7_CraftBack jf8 jf9_CraftBack jf10_CraftBack jf11_CraftBack jf12_CraftBack jf13_CraftBack jf14_CraftBack jf15_CraftBack jf16_CraftBack jf17_CraftBack jf18_CraftBack jf19_CraftBack jf20_CraftBack jf21_CraftBack jf22_CraftBack jf23_CraftBack jf24 jf25 jf26_CraftBack jf27_CraftBack jf28_CraftBack jf29_CraftBack jf30_CraftBack jf31_CraftBack)
    (of_decide_eq_true (by kernel_rfl)) (by unfold Func.isWrapper; first | (rw [if_pos (by decide +kernel)]; kernel_rfl) | (rw [if_neg (by decide +kernel)]; exact ⟨rfl, rfl⟩))
    (fun os started H enc _ => lifted_CraftBack os started H enc)
end Go.Proofs.Ytdcijmigoefnjaa
