/- The row of OxmEncodes, out of its call. -/
import Derived.Test.YtdcijmigoefnjaaRows
import Derived.Test.YtdcijmigoefnjaaEvLa
import Derived.Test.YtdcijmigoefnjaaJf
import Derived.Test.YtdcijmigoefnjaaL10c
import Derived.WalkKit
import Derived.ProofKit
import Derived.OpenShut
import Derived.ShutString
import Derived.ChangeOld
import Derived.Below
import Derived.SizedLaws
set_option linter.unusedVariables false
set_option maxRecDepth 100000
namespace Go.Proofs.Ytdcijmigoefnjaa
open Go Go.Ev Go.ChangeShapes Go.WideShapes Go.ChangeAt Go.RowKit
open Go.ChangeMaps (open_string shut_string)
theorem own_OxmEncodes : ownKnob Try.prog.godebug = none := by kernel_rfl
set_option maxRecDepth 100000 in
theorem lifted_OxmEncodes (os : Os) (started : os.Started) (H : Type) (enc : TypeId × Value → H) :
    ReturnsInHanded {} Try.checked os 15 .any (Rows.oxmEncodesSpec.pre6 enc Try.prog Try.f15 Rows.oxmEncodesRow.domain false) (Rows.oxmEncodesSpec.post enc Try.prog Try.f15 false true false false) := by
  refine returnsInHanded_of_change_sized (C := Try.checked) own_OxmEncodes started (by kernel_rfl) Try.func15
    (ChangeSpec.witness6 (enc := enc) (C := Try.checked) false ⟨#[], #[.agg #[.int .i64 0, .bool false, .int .u64 0, .int .u64 0, .int .u64 0, .int .u64 0], .agg #[.int .i64 0, .bool false, .int .u64 0, .int .u64 0, .int .u64 0, .int .u64 0]], []⟩ 8 (by kernel_rfl) (by kernel_rfl) (by kernel_rfl) (by kernel_rfl)) ?_
  intro W base args ds gs before hval0 hW hcnd hsz0 _
  have hval : ∀ (j : Nat) t v, Try.f15.params[j]? = some t → args[j]? = some v → Value.okWide Try.prog W .any base t v := hval0
  have hW' := hW
  obtain ⟨p, q, hA0, hV, rfl, hfz, hnd⟩ := hW
  have hA : DataW.TrodAll enc Try.prog W 0 (fun _ => true) true Try.f15.params.toList args.toList ds p := hA0
  rw [Try.params15] at hA hval
  obtain ⟨v0, vs0, d0, ds0, p0, q0, hargs, rfl, rfl, h0, r0⟩ := trodAll_cons hA
  obtain ⟨v1, vs1, d1, ds1, p1, q1, rfl, rfl, rfl, h1, r1⟩ := trodAll_cons r0
  obtain ⟨rfl, rfl, rfl⟩ := trodAll_nil r1
  obtain rfl : args = #[v0, v1] := by cases args; simp_all
  obtain ⟨rfl, rfl⟩ := trodVars_none hV
  have k0 := h0
  have lt0 : ∀ x ∈ p0, x.block < W.heap.size := by obtain ⟨m, hm⟩ := k0; exact DataW.trod_lt m _ _ _ hm
  have g0 : ∃ cs, v0 = .agg cs := by
    have := (hval 0 60 v0 rfl rfl)
    simp only [Value.okWide, Try.underlying60] at this
    obtain ⟨cs, h, _⟩ := this
    exact ⟨cs, h⟩
  obtain ⟨a0, w0, e0⟩ := open_aggA (S := AllS W) (ws := W) (d := 9) (ls := [.int .i64, .bool, .int .u64, .int .u64, .int .u64, .int .u64]) h0 (by kernel_rfl) g0
  have k1 := h1
  have lt1 : ∀ x ∈ p1, x.block < W.heap.size := by obtain ⟨m, hm⟩ := k1; exact DataW.trod_lt m _ _ _ hm
  have g1 : ∃ cs, v1 = .agg cs := by
    have := (hval 1 60 v1 rfl rfl)
    simp only [Value.okWide, Try.underlying60] at this
    obtain ⟨cs, h, _⟩ := this
    exact ⟨cs, h⟩
  obtain ⟨a1, w1, e1⟩ := open_aggA (S := AllS W) (ws := W) (d := 9) (ls := [.int .i64, .bool, .int .u64, .int .u64, .int .u64, .int .u64]) h1 (by kernel_rfl) g1
  clear hA0 hval0 hsz0
  refine (CallsA.below (cOxmEncodes w0 w1) (.cons (e0) (.cons (e1) (.nil)))).mono fun e W' ⟨he, bel⟩ => ?_
  subst he
  exact ⟨_, rfl, _, _, _, [], _, [], hW', trodAll_mk1 (shut_bool Try.underlying4 _), (trodAll_cons_mk (Below.trod jf1 (by kernel_rfl) (of_decide_eq_true (by kernel_rfl)) k0 bel lt0) (trodAll_cons_mk (Below.trod jf1 (by kernel_rfl) (of_decide_eq_true (by kernel_rfl)) k1 bel lt1) trodAll_mk0)), rfl, bel.frame _, fun h => by cases h⟩
set_option maxRecDepth 100000 in
theorem jf0_OxmEncodes : (Rows.oxmEncodesRow.wf (OpenSpec.ofChange Rows.oxmEncodesSpec)) = true := by kernel_rfl
set_option maxRecDepth 100000 in
theorem jf3_OxmEncodes : (Try.f15.params.all (Try.prog.readableRec ·)) = true := by kernel_rfl
set_option maxRecDepth 100000 in
theorem jf4_OxmEncodes : (namedTie Try.prog Rows.oxmEncodesRow.named Rows.oxmEncodesSpec.vars) = true := by kernel_rfl
set_option maxRecDepth 100000 in
theorem jf5_OxmEncodes : ((Rows.oxmEncodesRow.stops == [])) = true := by kernel_rfl
set_option maxRecDepth 100000 in
theorem jf7_OxmEncodes : ((Rows.oxmEncodesRow.knobs == [])) = true := by kernel_rfl
set_option maxRecDepth 100000 in
theorem jf9_OxmEncodes : ((Rows.oxmEncodesRow.inPlace == Try.prog.inPlace 15)) = true := by kernel_rfl
set_option maxRecDepth 100000 in
theorem jf10_OxmEncodes : ((Rows.oxmEncodesRow.unfollowed == Try.prog.unfollowed 15)) = true := by kernel_rfl
set_option maxRecDepth 100000 in
theorem jf11_OxmEncodes : ((Rows.oxmEncodesRow.recurses == Try.prog.recurses 15)) = true := by kernel_rfl
set_option maxRecDepth 100000 in
theorem jf12_OxmEncodes : ((Rows.oxmEncodesRow.named == Try.prog.varsNamed 15)) = true := by kernel_rfl
set_option maxRecDepth 100000 in
theorem jf13_OxmEncodes : ((Rows.oxmEncodesRow.maps == (Try.f15.params.toList ++ Rows.oxmEncodesSpec.plain.varTypes Try.prog).any (Try.prog.mapsRec ·))) = true := by kernel_rfl
set_option maxRecDepth 100000 in
theorem jf14_OxmEncodes : ((Rows.oxmEncodesRow.ifaces == (Try.f15.params.toList ++ Rows.oxmEncodesSpec.plain.varTypes Try.prog).any (Try.prog.ifacesRec ·))) = true := by kernel_rfl
set_option maxRecDepth 100000 in
theorem jf15_OxmEncodes : ((Rows.oxmEncodesRow.mapsOut == Try.prog.mapsAmong Try.f15.resultTypes.toList)) = true := by kernel_rfl
set_option maxRecDepth 100000 in
theorem jf16_OxmEncodes : ((Rows.oxmEncodesRow.loops == (Try.f15.params.toList ++ Rows.oxmEncodesSpec.plain.varTypes Try.prog).any (Try.prog.loopsFrom ·))) = true := by kernel_rfl
set_option maxRecDepth 100000 in
theorem jf17_OxmEncodes : ((Rows.oxmEncodesRow.wideKeys == (Try.f15.params.toList ++ Rows.oxmEncodesSpec.plain.varTypes Try.prog ++ Try.f15.resultTypes.toList).any (Try.prog.wideKeysFrom ·))) = true := by kernel_rfl
set_option maxRecDepth 100000 in
theorem jf18_OxmEncodes : (Rows.oxmEncodesSpec.vars.all (Try.prog.varReadable ·)) = true := by kernel_rfl
set_option maxRecDepth 100000 in
theorem jf19_OxmEncodes : (Try.f15.resultTypes.all (fun t => Try.prog.readableRec t && decide (t < Try.prog.types.size))) = true := by kernel_rfl
set_option maxRecDepth 100000 in
theorem jf20_OxmEncodes : ((Rows.oxmEncodesRow.ifacesOut == Try.f15.resultTypes.toList.any (Try.prog.ifacesRec ·))) = true := by kernel_rfl
set_option maxRecDepth 100000 in
theorem jf21_OxmEncodes : ((Rows.oxmEncodesRow.loopsOut == Try.f15.resultTypes.toList.any (Try.prog.loopsFrom ·))) = true := by kernel_rfl
set_option maxRecDepth 100000 in
theorem jf22_OxmEncodes : ((Rows.oxmEncodesRow.plainKeys == Try.prog.plainKeys)) = true := by kernel_rfl
set_option maxRecDepth 100000 in
theorem jf23_OxmEncodes : (Rows.oxmEncodesRow.shortTexts.isNone) = true := by kernel_rfl
set_option maxRecDepth 100000 in
theorem jf26_OxmEncodes : ((Rows.oxmEncodesRow.lifted == Try.prog.liftsFinal)) = true := by rw [lifts_eq]; rfl
set_option maxRecDepth 100000 in
theorem jf27_OxmEncodes : ((Try.prog.make == some Rows.oxmEncodesRow.make)) = true := by rw [make_eq]; rfl
set_option maxRecDepth 100000 in
theorem jf28_OxmEncodes : ((Rows.oxmEncodesRow.kinds == (if Rows.oxmEncodesRow.domain.isEmpty then [] else Try.f15.params.toList.map fun t => match Try.prog.underlying t with | some (.int k) => some k | _ => none))) = true := by kernel_rfl
set_option maxRecDepth 100000 in
theorem jf29_OxmEncodes : ((Rows.oxmEncodesRow.pinned == Rows.oxmEncodesRow.pinnedBy)) = true := by kernel_rfl
set_option maxRecDepth 100000 in
theorem jf30_OxmEncodes : ((Rows.oxmEncodesRow.veiled == (Try.f15.params.toList ++ Rows.oxmEncodesSpec.plain.varTypes Try.prog ++ Try.f15.resultTypes.toList).any (Try.prog.veiledRec ·))) = true := by kernel_rfl
set_option maxRecDepth 100000 in
theorem jf31_OxmEncodes : (Rows.oxmEncodesRow.veiledFits Try.prog Try.f15.params.toList (Try.f15.params.toList ++ Rows.oxmEncodesSpec.plain.varTypes Try.prog ++ Try.f15.resultTypes.toList)) = true := by kernel_rfl
/-- OxmEncodes holds. -/
theorem oxmEncodes_holds : Rows.OxmEncodesSaid :=
  OpenClaim.holds_of_wide 15 Try.f15 rfl rfl rfl rfl rfl rfl rfl ⟨rfl, rfl, rfl, rfl, rfl⟩ rfl rfl rfl rfl rfl (by kernel_rfl) Try.func15 (joined_of jf0_OxmEncodes jf1 jf2 jf3_OxmEncodes jf4_OxmEncodes jf5_OxmEncodes jf6 jf7_OxmEncodes jf8 jf9_OxmEncodes jf10_OxmEncodes jf11_OxmEncodes jf12_OxmEncodes jf13_OxmEncodes jf14_OxmEncodes jf15_OxmEncodes jf16_OxmEncodes jf17_OxmEncodes jf18_OxmEncodes jf19_OxmEncodes jf20_OxmEncodes jf21_OxmEncodes jf22_OxmEncodes jf23_OxmEncodes jf24 jf25 jf26_OxmEncodes jf27_OxmEncodes jf28_OxmEncodes jf29_OxmEncodes jf30_OxmEncodes jf31_OxmEncodes)
    (of_decide_eq_true (by kernel_rfl)) (by unfold Func.isWrapper; first | (rw [if_pos (by decide +kernel)]; kernel_rfl) | (rw [if_neg (by decide +kernel)]; exact ⟨rfl, rfl⟩))
    (fun os started H enc _ => lifted_OxmEncodes os started H enc)
end Go.Proofs.Ytdcijmigoefnjaa
