/- The row of OxmBack, out of its call. -/
import Derived.Test.YtdcijmigoefnjaaRows
import Derived.Test.YtdcijmigoefnjaaEvLa
import Derived.Test.YtdcijmigoefnjaaJf
import Derived.Test.YtdcijmigoefnjaaL10c
import Derived.WalkKit
import Derived.ProofKit
import Derived.OpenShut
import Derived.ShutString
import Derived.ChangeOld
import Derived.Below
import Derived.SizedLaws
set_option linter.unusedVariables false
set_option maxRecDepth 100000
namespace Go.Proofs.Ytdcijmigoefnjaa
open Go Go.Ev Go.ChangeShapes Go.WideShapes Go.ChangeAt Go.RowKit
open Go.ChangeMaps (open_string shut_string)
theorem own_OxmBack : ownKnob Try.prog.godebug = none := by kernel_rfl
set_option maxRecDepth 100000 in
theorem lifted_OxmBack (os : Os) (started : os.Started) (H : Type) (enc : TypeId × Value → H) :
    ReturnsInHanded {} Try.checked os 16 .any (Rows.oxmBackSpec.pre6 enc Try.prog Try.f16 Rows.oxmBackRow.domain false) (Rows.oxmBackSpec.post enc Try.prog Try.f16 false true false false) := by
  refine returnsInHanded_of_change_sized (C := Try.checked) own_OxmBack started (by kernel_rfl) Try.func16
    (ChangeSpec.witness6 (enc := enc) (C := Try.checked) false ⟨#[], #[.agg #[.int .i64 0, .bool false, .int .u64 0, .int .u64 0, .int .u64 0, .int .u64 0], .slice none 0 0], []⟩ 8 (by kernel_rfl) (by kernel_rfl) (by kernel_rfl) (by kernel_rfl)) ?_
  intro W base args ds gs before hval0 hW hcnd hsz0 _
  have hval : ∀ (j : Nat) t v, Try.f16.params[j]? = some t → args[j]? = some v → Value.okWide Try.prog W .any base t v := hval0
  have hW' := hW
  obtain ⟨p, q, hA0, hV, rfl, hfz, hnd⟩ := hW
  have hA : DataW.TrodAll enc Try.prog W 0 (fun _ => true) true Try.f16.params.toList args.toList ds p := hA0
  rw [Try.params16] at hA hval
  obtain ⟨v0, vs0, d0, ds0, p0, q0, hargs, rfl, rfl, h0, r0⟩ := trodAll_cons hA
  obtain ⟨v1, vs1, d1, ds1, p1, q1, rfl, rfl, rfl, h1, r1⟩ := trodAll_cons r0
  obtain ⟨rfl, rfl, rfl⟩ := trodAll_nil r1
  obtain rfl : args = #[v0, v1] := by cases args; simp_all
  obtain ⟨rfl, rfl⟩ := trodVars_none hV
  have k0 := h0
  have lt0 : ∀ x ∈ p0, x.block < W.heap.size := by obtain ⟨m, hm⟩ := k0; exact DataW.trod_lt m _ _ _ hm
  have g0 : ∃ cs, v0 = .agg cs := by
    have := (hval 0 60 v0 rfl rfl)
    simp only [Value.okWide, Try.underlying60] at this
    obtain ⟨cs, h, _⟩ := this
    exact ⟨cs, h⟩
  obtain ⟨a0, w0, e0⟩ := open_aggA (S := AllS W) (ws := W) (d := 9) (ls := [.int .i64, .bool, .int .u64, .int .u64, .int .u64, .int .u64]) h0 (by kernel_rfl) g0
  have k1 := h1
  have lt1 : ∀ x ∈ p1, x.block < W.heap.size := by obtain ⟨m, hm⟩ := k1; exact DataW.trod_lt m _ _ _ hm
  obtain ⟨a1, w1, z1, e1⟩ := open_sliceA (d := 9) (ls := [.int .u8]) Try.underlying52 (by kernel_rfl) (by kernel_rfl) (by decide) h1 (hval 1 52 v1 rfl rfl)
  clear hA0 hval0 hsz0
  refine (CallsA.below (cOxmBack w0 w1 z1) (.cons (e0) (.cons (e1) (.nil)))).mono fun e W' ⟨he, bel⟩ => ?_
  subst he
  exact ⟨_, rfl, _, _, _, [], _, [], hW', trodAll_mk1 (shut_bool Try.underlying4 _), (trodAll_cons_mk (Below.trod jf1 (by kernel_rfl) (of_decide_eq_true (by kernel_rfl)) k0 bel lt0) (trodAll_cons_mk (Below.trod jf1 (by kernel_rfl) (of_decide_eq_true (by kernel_rfl)) k1 bel lt1) trodAll_mk0)), rfl, bel.frame _, fun h => by cases h⟩
set_option maxRecDepth 100000 in
theorem jf0_OxmBack : (Rows.oxmBackRow.wf (OpenSpec.ofChange Rows.oxmBackSpec)) = true := by kernel_rfl
set_option maxRecDepth 100000 in
theorem jf3_OxmBack : (Try.f16.params.all (Try.prog.readableRec ·)) = true := by kernel_rfl
set_option maxRecDepth 100000 in
theorem jf4_OxmBack : (namedTie Try.prog Rows.oxmBackRow.named Rows.oxmBackSpec.vars) = true := by kernel_rfl
set_option maxRecDepth 100000 in
theorem jf5_OxmBack : ((Rows.oxmBackRow.stops == [])) = true := by kernel_rfl
set_option maxRecDepth 100000 in
theorem jf7_OxmBack : ((Rows.oxmBackRow.knobs == [])) = true := by kernel_rfl
set_option maxRecDepth 100000 in
theorem jf9_OxmBack : ((Rows.oxmBackRow.inPlace == Try.prog.inPlace 16)) = true := by kernel_rfl
set_option maxRecDepth 100000 in
theorem jf10_OxmBack : ((Rows.oxmBackRow.unfollowed == Try.prog.unfollowed 16)) = true := by kernel_rfl
set_option maxRecDepth 100000 in
theorem jf11_OxmBack : ((Rows.oxmBackRow.recurses == Try.prog.recurses 16)) = true := by kernel_rfl
set_option maxRecDepth 100000 in
theorem jf12_OxmBack : ((Rows.oxmBackRow.named == Try.prog.varsNamed 16)) = true := by kernel_rfl
set_option maxRecDepth 100000 in
theorem jf13_OxmBack : ((Rows.oxmBackRow.maps == (Try.f16.params.toList ++ Rows.oxmBackSpec.plain.varTypes Try.prog).any (Try.prog.mapsRec ·))) = true := by kernel_rfl
set_option maxRecDepth 100000 in
theorem jf14_OxmBack : ((Rows.oxmBackRow.ifaces == (Try.f16.params.toList ++ Rows.oxmBackSpec.plain.varTypes Try.prog).any (Try.prog.ifacesRec ·))) = true := by kernel_rfl
set_option maxRecDepth 100000 in
theorem jf15_OxmBack : ((Rows.oxmBackRow.mapsOut == Try.prog.mapsAmong Try.f16.resultTypes.toList)) = true := by kernel_rfl
set_option maxRecDepth 100000 in
theorem jf16_OxmBack : ((Rows.oxmBackRow.loops == (Try.f16.params.toList ++ Rows.oxmBackSpec.plain.varTypes Try.prog).any (Try.prog.loopsFrom ·))) = true := by kernel_rfl
set_option maxRecDepth 100000 in
theorem jf17_OxmBack : ((Rows.oxmBackRow.wideKeys == (Try.f16.params.toList ++ Rows.oxmBackSpec.plain.varTypes Try.prog ++ Try.f16.resultTypes.toList).any (Try.prog.wideKeysFrom ·))) = true := by kernel_rfl
set_option maxRecDepth 100000 in
theorem jf18_OxmBack : (Rows.oxmBackSpec.vars.all (Try.prog.varReadable ·)) = true := by kernel_rfl
set_option maxRecDepth 100000 in
theorem jf19_OxmBack : (Try.f16.resultTypes.all (fun t => Try.prog.readableRec t && decide (t < Try.prog.types.size))) = true := by kernel_rfl
set_option maxRecDepth 100000 in
theorem jf20_OxmBack : ((Rows.oxmBackRow.ifacesOut == Try.f16.resultTypes.toList.any (Try.prog.ifacesRec ·))) = true := by kernel_rfl
set_option maxRecDepth 100000 in
theorem jf21_OxmBack : ((Rows.oxmBackRow.loopsOut == Try.f16.resultTypes.toList.any (Try.prog.loopsFrom ·))) = true := by kernel_rfl
set_option maxRecDepth 100000 in
theorem jf22_OxmBack : ((Rows.oxmBackRow.plainKeys == Try.prog.plainKeys)) = true := by kernel_rfl
set_option maxRecDepth 100000 in
theorem jf23_OxmBack : (Rows.oxmBackRow.shortTexts.isNone) = true := by kernel_rfl
set_option maxRecDepth 100000 in
theorem jf26_OxmBack : ((Rows.oxmBackRow.lifted == Try.prog.liftsFinal)) = true := by rw [lifts_eq]; rfl
set_option maxRecDepth 100000 in
theorem jf27_OxmBack : ((Try.prog.make == some Rows.oxmBackRow.make)) = true := by rw [make_eq]; rfl
set_option maxRecDepth 100000 in
theorem jf28_OxmBack : ((Rows.oxmBackRow.kinds == (if Rows.oxmBackRow.domain.isEmpty then [] else Try.f16.params.toList.map fun t => match Try.prog.underlying t with | some (.int k) => some k | _ => none))) = true := by kernel_rfl
set_option maxRecDepth 100000 in
theorem jf29_OxmBack : ((Rows.oxmBackRow.pinned == Rows.oxmBackRow.pinnedBy)) = true := by kernel_rfl
set_option maxRecDepth 100000 in
theorem jf30_OxmBack : ((Rows.oxmBackRow.veiled == (Try.f16.params.toList ++ Rows.oxmBackSpec.plain.varTypes Try.prog ++ Try.f16.resultTypes.toList).any (Try.prog.veiledRec ·))) = true := by kernel_rfl
set_option maxRecDepth 100000 in
theorem jf31_OxmBack : (Rows.oxmBackRow.veiledFits Try.prog Try.f16.params.toList (Try.f16.params.toList ++ Rows.oxmBackSpec.plain.varTypes Try.prog ++ Try.f16.resultTypes.toList)) = true := by kernel_rfl
/-- OxmBack holds. -/
theorem oxmBack_holds : Rows.OxmBackSaid :=
  OpenClaim.holds_of_wide 16 Try.f16 rfl rfl rfl rfl rfl rfl rfl ⟨rfl, rfl, rfl, rfl, rfl⟩ rfl rfl rfl rfl rfl (by kernel_rfl) Try.func16 (joined_of jf0_OxmBack jf1 jf2 jf3_OxmBack jf4_OxmBack jf5_OxmBack jf6 jf7_OxmBack jf8 jf9_OxmBack jf10_OxmBack jf11_OxmBack jf12_OxmBack jf13_OxmBack jf14_OxmBack jf15_OxmBack jf16_OxmBack jf17_OxmBack jf18_OxmBack jf19_OxmBack jf20_OxmBack jf21_OxmBack jf22_OxmBack jf23_OxmBack jf24 jf25 jf26_OxmBack jf27_OxmBack jf28_OxmBack jf29_OxmBack jf30_OxmBack jf31_OxmBack)
    (of_decide_eq_true (by kernel_rfl)) (by unfold Func.isWrapper; first | (rw [if_pos (by decide +kernel)]; kernel_rfl) | (rw [if_neg (by decide +kernel)]; exact ⟨rfl, rfl⟩))
    (fun os started H enc _ => lifted_OxmBack os started H enc)
end Go.Proofs.Ytdcijmigoefnjaa
