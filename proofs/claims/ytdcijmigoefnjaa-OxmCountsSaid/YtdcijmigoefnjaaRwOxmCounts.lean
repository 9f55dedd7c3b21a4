/- The row of OxmCounts, out of its call. -/
import Derived.Test.YtdcijmigoefnjaaRows
import Derived.Test.YtdcijmigoefnjaaEvLa
import Derived.Test.YtdcijmigoefnjaaJf
import Derived.Test.YtdcijmigoefnjaaL10c
import Derived.WalkKit
import Derived.ProofKit
import Derived.OpenShut
import Derived.ShutString
import Derived.ChangeOld
import Derived.Below
import Derived.SizedLaws
set_option linter.unusedVariables false
set_option maxRecDepth 100000
namespace Go.Proofs.Ytdcijmigoefnjaa
open Go Go.Ev Go.ChangeShapes Go.WideShapes Go.ChangeAt Go.RowKit
open Go.ChangeMaps (open_string shut_string)
theorem own_OxmCounts : ownKnob Try.prog.godebug = none := by kernel_rfl
set_option maxRecDepth 100000 in
theorem lifted_OxmCounts (os : Os) (started : os.Started) (H : Type) (enc : TypeId × Value → H) :
    ReturnsInHanded {} Try.checked os 11 .any (Rows.oxmCountsSpec.pre6 enc Try.prog Try.f11 Rows.oxmCountsRow.domain false) (Rows.oxmCountsSpec.post enc Try.prog Try.f11 false true false false) := by
  refine returnsInHanded_of_change_sized (C := Try.checked) own_OxmCounts started (by kernel_rfl) Try.func11
    (ChangeSpec.witness6 (enc := enc) (C := Try.checked) false ⟨#[], #[.agg #[.int .i64 0, .bool false, .int .u64 0, .int .u64 0, .int .u64 0, .int .u64 0], .agg #[.int .u64 0, .int .u64 0]], []⟩ 8 (by kernel_rfl) (by kernel_rfl) (by kernel_rfl) (by kernel_rfl)) ?_
  intro W base args ds gs before hval0 hW hcnd hsz0 _
  have hval : ∀ (j : Nat) t v, Try.f11.params[j]? = some t → args[j]? = some v → Value.okWide Try.prog W .any base t v := hval0
  have hW' := hW
  obtain ⟨p, q, hA0, hV, rfl, hfz, hnd⟩ := hW
  have hA : DataW.TrodAll enc Try.prog W 0 (fun _ => true) true Try.f11.params.toList args.toList ds p := hA0
  rw [Try.params11] at hA hval
  obtain ⟨v0, vs0, d0, ds0, p0, q0, hargs, rfl, rfl, h0, r0⟩ := trodAll_cons hA
  obtain ⟨v1, vs1, d1, ds1, p1, q1, rfl, rfl, rfl, h1, r1⟩ := trodAll_cons r0
  obtain ⟨rfl, rfl, rfl⟩ := trodAll_nil r1
  obtain rfl : args = #[v0, v1] := by cases args; simp_all
  obtain ⟨rfl, rfl⟩ := trodVars_none hV
  have k0 := h0
  have lt0 : ∀ x ∈ p0, x.block < W.heap.size := by obtain ⟨m, hm⟩ := k0; exact DataW.trod_lt m _ _ _ hm
  have g0 : ∃ cs, v0 = .agg cs := by
    have := (hval 0 60 v0 rfl rfl)
    simp only [Value.okWide, Try.underlying60] at this
    obtain ⟨cs, h, _⟩ := this
    exact ⟨cs, h⟩
  obtain ⟨a0, w0, e0⟩ := open_aggA (S := AllS W) (ws := W) (d := 9) (ls := [.int .i64, .bool, .int .u64, .int .u64, .int .u64, .int .u64]) h0 (by kernel_rfl) g0
  have k1 := h1
  have lt1 : ∀ x ∈ p1, x.block < W.heap.size := by obtain ⟨m, hm⟩ := k1; exact DataW.trod_lt m _ _ _ hm
  have g1 : ∃ cs, v1 = .agg cs := by
    have := (hval 1 36 v1 rfl rfl)
    simp only [Value.okWide, Try.underlying36] at this
    obtain ⟨cs, h, _⟩ := this
    exact ⟨cs, h⟩
  obtain ⟨a1, w1, e1⟩ := open_aggA (S := AllS W) (ws := W) (d := 9) (ls := [.int .u64, .int .u64]) h1 (by kernel_rfl) g1
  clear hA0 hval0 hsz0
  refine (CallsA.below (cOxmCounts w0 w1) (.cons (e0) (.cons (e1) (.nil)))).mono fun e W' ⟨he, bel⟩ => ?_
  subst he
  exact ⟨_, rfl, _, _, _, [], _, [], hW', trodAll_mk1 (shut_bool Try.underlying4 _), (trodAll_cons_mk (Below.trod jf1 (by kernel_rfl) (of_decide_eq_true (by kernel_rfl)) k0 bel lt0) (trodAll_cons_mk (Below.trod jf1 (by kernel_rfl) (of_decide_eq_true (by kernel_rfl)) k1 bel lt1) trodAll_mk0)), rfl, bel.frame _, fun h => by cases h⟩
set_option maxRecDepth 100000 in
theorem jf0_OxmCounts : (Rows.oxmCountsRow.wf (OpenSpec.ofChange Rows.oxmCountsSpec)) = true := by kernel_rfl
set_option maxRecDepth 100000 in
theorem jf3_OxmCounts : (Try.f11.params.all (Try.prog.readableRec ·)) = true := by kernel_rfl
set_option maxRecDepth 100000 in
theorem jf4_OxmCounts : (namedTie Try.prog Rows.oxmCountsRow.named Rows.oxmCountsSpec.vars) = true := by kernel_rfl
set_option maxRecDepth 100000 in
theorem jf5_OxmCounts : ((Rows.oxmCountsRow.stops == [])) = true := by kernel_rfl
set_option maxRecDepth 100000 in
theorem jf7_OxmCounts : ((Rows.oxmCountsRow.knobs == [])) = true := by kernel_rfl
set_option maxRecDepth 100000 in
theorem jf9_OxmCounts : ((Rows.oxmCountsRow.inPlace == Try.prog.inPlace 11)) = true := by kernel_rfl
set_option maxRecDepth 100000 in
theorem jf10_OxmCounts : ((Rows.oxmCountsRow.unfollowed == Try.prog.unfollowed 11)) = true := by kernel_rfl
set_option maxRecDepth 100000 in
theorem jf11_OxmCounts : ((Rows.oxmCountsRow.recurses == Try.prog.recurses 11)) = true := by kernel_rfl
set_option maxRecDepth 100000 in
theorem jf12_OxmCounts : ((Rows.oxmCountsRow.named == Try.prog.varsNamed 11)) = true := by kernel_rfl
set_option maxRecDepth 100000 in
theorem jf13_OxmCounts : ((Rows.oxmCountsRow.maps == (Try.f11.params.toList ++ Rows.oxmCountsSpec.plain.varTypes Try.prog).any (Try.prog.mapsRec ·))) = true := by kernel_rfl
set_option maxRecDepth 100000 in
theorem jf14_OxmCounts : ((Rows.oxmCountsRow.ifaces == (Try.f11.params.toList ++ Rows.oxmCountsSpec.plain.varTypes Try.prog).any (Try.prog.ifacesRec ·))) = true := by kernel_rfl
set_option maxRecDepth 100000 in
theorem jf15_OxmCounts : ((Rows.oxmCountsRow.mapsOut == Try.prog.mapsAmong Try.f11.resultTypes.toList)) = true := by kernel_rfl
set_option maxRecDepth 100000 in
theorem jf16_OxmCounts : ((Rows.oxmCountsRow.loops == (Try.f11.params.toList ++ Rows.oxmCountsSpec.plain.varTypes Try.prog).any (Try.prog.loopsFrom ·))) = true := by kernel_rfl
set_option maxRecDepth 100000 in
theorem jf17_OxmCounts : ((Rows.oxmCountsRow.wideKeys == (Try.f11.params.toList ++ Rows.oxmCountsSpec.plain.varTypes Try.prog ++ Try.f11.resultTypes.toList).any (Try.prog.wideKeysFrom ·))) = true := by kernel_rfl
set_option maxRecDepth 100000 in
theorem jf18_OxmCounts : (Rows.oxmCountsSpec.vars.all (Try.prog.varReadable ·)) = true := by kernel_rfl
set_option maxRecDepth 100000 in
theorem jf19_OxmCounts : (Try.f11.resultTypes.all (fun t => Try.prog.readableRec t && decide (t < Try.prog.types.size))) = true := by kernel_rfl
set_option maxRecDepth 100000 in
theorem jf20_OxmCounts : ((Rows.oxmCountsRow.ifacesOut == Try.f11.resultTypes.toList.any (Try.prog.ifacesRec ·))) = true := by kernel_rfl
set_option maxRecDepth 100000 in
theorem jf21_OxmCounts : ((Rows.oxmCountsRow.loopsOut == Try.f11.resultTypes.toList.any (Try.prog.loopsFrom ·))) = true := by kernel_rfl
set_option maxRecDepth 100000 in
theorem jf22_OxmCounts : ((Rows.oxmCountsRow.plainKeys == Try.prog.plainKeys)) = true := by kernel_rfl
set_option maxRecDepth 100000 in
theorem jf23_OxmCounts : (Rows.oxmCountsRow.shortTexts.isNone) = true := by kernel_rfl
set_option maxRecDepth 100000 in
theorem jf26_OxmCounts : ((Rows.oxmCountsRow.lifted == Try.prog.liftsFinal)) = true := by rw [lifts_eq]; rfl
set_option maxRecDepth 100000 in
theorem jf27_OxmCounts : ((Try.prog.make == some Rows.oxmCountsRow.make)) = true := by rw [make_eq]; rfl
set_option maxRecDepth 100000 in
theorem jf28_OxmCounts : ((Rows.oxmCountsRow.kinds == (if Rows.oxmCountsRow.domain.isEmpty then [] else Try.f11.params.toList.map fun t => match Try.prog.underlying t with | some (.int k) => some k | _ => none))) = true := by kernel_rfl
set_option maxRecDepth 100000 in
theorem jf29_OxmCounts : ((Rows.oxmCountsRow.pinned == Rows.oxmCountsRow.pinnedBy)) = true := by kernel_rfl
set_option maxRecDepth 100000 in
theorem jf30_OxmCounts : ((Rows.oxmCountsRow.veiled == (Try.f11.params.toList ++ Rows.oxmCountsSpec.plain.varTypes Try.prog ++ Try.f11.resultTypes.toList).any (Try.prog.veiledRec ·))) = true := by kernel_rfl
set_option maxRecDepth 100000 in
theorem jf31_OxmCounts : (Rows.oxmCountsRow.veiledFits Try.prog Try.f11.params.toList (Try.f11.params.toList ++ Rows.oxmCountsSpec.plain.varTypes Try.prog ++ Try.f11.resultTypes.toList)) = true := by kernel_rfl
/-- OxmCounts holds. -/
theorem oxmCounts_holds : Rows.OxmCountsSaid :=
  OpenClaim.holds_of_wide 11 Try.f11 rfl rfl rfl rfl rfl rfl rfl ⟨rfl, rfl, rfl, rfl, rfl⟩ rfl rfl rfl rfl rfl (by kernel_rfl) Try.func11 (joined_of jf0_OxmCounts jf1 jf2 jf3_OxmCounts jf4_OxmCounts jf5_OxmCounts jf6 jf7_OxmCounts jf8 jf9_OxmCounts jf10_OxmCounts jf11_OxmCounts jf12_OxmCounts jf13_OxmCounts jf14_OxmCounts jf15_OxmCounts jf16_OxmCounts jf17_OxmCounts jf18_OxmCounts jf19_OxmCounts jf20_OxmCounts jf21_OxmCounts jf22_OxmCounts jf23_OxmCounts jf24 jf25 jf26_OxmCounts jf27_OxmCounts jf28_OxmCounts jf29_OxmCounts jf30_OxmCounts jf31_OxmCounts)
    (of_decide_eq_true (by kernel_rfl)) (by unfold Func.isWrapper; first | (rw [if_pos (by decide +kernel)]; kernel_rfl) | (rw [if_neg (by decide +kernel)]; exact ⟨rfl, rfl⟩))
    (fun os started H enc _ => lifted_OxmCounts os started H enc)
end Go.Proofs.Ytdcijmigoefnjaa
