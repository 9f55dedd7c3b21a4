/- The row of HeaderSets, out of its call. -/
import Derived.Test.YtdcijmigoefnjaaRows
import Derived.Test.YtdcijmigoefnjaaEvLa
import Derived.Test.YtdcijmigoefnjaaJf
import Derived.Test.YtdcijmigoefnjaaL04c
import Derived.WalkKit
import Derived.ProofKit
import Derived.OpenShut
import Derived.ShutString
import Derived.ChangeOld
import Derived.Below
import Derived.SizedLaws
set_option linter.unusedVariables false
set_option maxRecDepth 100000
namespace Go.Proofs.Ytdcijmigoefnjaa
open Go Go.Ev Go.ChangeShapes Go.WideShapes Go.ChangeAt Go.RowKit
open Go.ChangeMaps (open_string shut_string)
theorem own_HeaderSets : ownKnob Try.prog.godebug = none := by kernel_rfl
set_option maxRecDepth 100000 in
theorem lifted_HeaderSets (os : Os) (started : os.Started) (H : Type) (enc : TypeId × Value → H) :
    ReturnsInHanded {} Try.checked os 5 .any (Rows.headerSetsSpec.pre6 enc Try.prog Try.f5 Rows.headerSetsRow.domain false) (Rows.headerSetsSpec.post enc Try.prog Try.f5 false true false false) := by
  refine returnsInHanded_of_change_sized (C := Try.checked) own_HeaderSets started (by kernel_rfl) Try.func5
    (ChangeSpec.witness6 (enc := enc) (C := Try.checked) false ⟨#[], #[.agg #[.int .u64 0, .int .u64 0, .int .u64 0, .int .u64 0, .int .u64 0, .int .u64 0, .int .u64 0, .int .u64 0, .int .u64 0, .int .u64 0, .int .u64 0, .int .u64 0, .int .u64 0, .int .u64 0, .int .u64 0, .int .u64 0, .int .u64 0, .int .u64 0, .int .u64 0, .int .u64 0, .int .u64 0, .int .u64 0, .int .u64 0, .int .u64 0, .int .u64 0, .int .u64 0, .int .u64 0, .int .u64 0, .int .u64 0, .int .u64 0, .int .u64 0, .int .u64 0, .int .u64 0, .int .u64 0, .int .u64 0, .int .u64 0, .int .u64 0, .int .u64 0, .int .u64 0, .int .u64 0, .int .u64 0, .int .u64 0, .int .u64 0, .int .u64 0, .int .u64 0, .int .u64 0, .int .u64 0, .int .u64 0], .agg #[.int .u64 0, .int .u64 0, .int .u64 0, .int .u64 0, .int .u64 0, .int .u64 0, .int .u64 0, .int .u64 0, .int .u64 0, .int .u64 0, .int .u64 0, .int .u64 0, .int .u64 0, .int .u64 0, .int .u64 0, .int .u64 0, .int .u64 0, .int .u64 0, .int .u64 0, .int .u64 0, .int .u64 0, .int .u64 0, .int .u64 0, .int .u64 0, .int .u64 0, .int .u64 0, .int .u64 0, .int .u64 0, .int .u64 0, .int .u64 0, .int .u64 0, .int .u64 0, .int .u64 0, .int .u64 0, .int .u64 0, .int .u64 0, .int .u64 0, .int .u64 0, .int .u64 0, .int .u64 0, .int .u64 0, .int .u64 0, .int .u64 0, .int .u64 0, .int .u64 0, .int .u64 0, .int .u64 0, .int .u64 0], .int .i64 0, .agg #[.int .u64 0, .int .u64 0]], []⟩ 8 (by kernel_rfl) (by kernel_rfl) (by kernel_rfl) (by kernel_rfl)) ?_
  intro W base args ds gs before hval0 hW hcnd hsz0 _
  have hval : ∀ (j : Nat) t v, Try.f5.params[j]? = some t → args[j]? = some v → Value.okWide Try.prog W .any base t v := hval0
  have hW' := hW
  obtain ⟨p, q, hA0, hV, rfl, hfz, hnd⟩ := hW
  have hA : DataW.TrodAll enc Try.prog W 0 (fun _ => true) true Try.f5.params.toList args.toList ds p := hA0
  rw [Try.params5] at hA hval
  obtain ⟨v0, vs0, d0, ds0, p0, q0, hargs, rfl, rfl, h0, r0⟩ := trodAll_cons hA
  obtain ⟨v1, vs1, d1, ds1, p1, q1, rfl, rfl, rfl, h1, r1⟩ := trodAll_cons r0
  obtain ⟨v2, vs2, d2, ds2, p2, q2, rfl, rfl, rfl, h2, r2⟩ := trodAll_cons r1
  obtain ⟨v3, vs3, d3, ds3, p3, q3, rfl, rfl, rfl, h3, r3⟩ := trodAll_cons r2
  obtain ⟨rfl, rfl, rfl⟩ := trodAll_nil r3
  obtain rfl : args = #[v0, v1, v2, v3] := by cases args; simp_all
  obtain ⟨rfl, rfl⟩ := trodVars_none hV
  have k0 := h0
  have lt0 : ∀ x ∈ p0, x.block < W.heap.size := by obtain ⟨m, hm⟩ := k0; exact DataW.trod_lt m _ _ _ hm
  have g0 : ∃ cs, v0 = .agg cs := by
    have := (hval 0 39 v0 rfl rfl)
    simp only [Value.okWide, Try.underlying39] at this
    obtain ⟨cs, h, _⟩ := this
    exact ⟨cs, h⟩
  obtain ⟨a0, w0, e0⟩ := open_aggA (S := AllS W) (ws := W) (d := 9) (ls := (repL 24 [.int .u64, .int .u64])) h0 (by kernel_rfl) g0
  have k1 := h1
  have lt1 : ∀ x ∈ p1, x.block < W.heap.size := by obtain ⟨m, hm⟩ := k1; exact DataW.trod_lt m _ _ _ hm
  have g1 : ∃ cs, v1 = .agg cs := by
    have := (hval 1 39 v1 rfl rfl)
    simp only [Value.okWide, Try.underlying39] at this
    obtain ⟨cs, h, _⟩ := this
    exact ⟨cs, h⟩
  obtain ⟨a1, w1, e1⟩ := open_aggA (S := AllS W) (ws := W) (d := 9) (ls := (repL 24 [.int .u64, .int .u64])) h1 (by kernel_rfl) g1
  obtain ⟨a2, rfl, rfl, rfl, w2⟩ := open_int Try.underlying3 (hval 2 3 v2 rfl rfl) h2
  have k3 := h3
  have lt3 : ∀ x ∈ p3, x.block < W.heap.size := by obtain ⟨m, hm⟩ := k3; exact DataW.trod_lt m _ _ _ hm
  have g3 : ∃ cs, v3 = .agg cs := by
    have := (hval 3 36 v3 rfl rfl)
    simp only [Value.okWide, Try.underlying36] at this
    obtain ⟨cs, h, _⟩ := this
    exact ⟨cs, h⟩
  obtain ⟨a3, w3, e3⟩ := open_aggA (S := AllS W) (ws := W) (d := 9) (ls := [.int .u64, .int .u64]) h3 (by kernel_rfl) g3
  clear hA0 hval0 hsz0
  refine (CallsA.below (cHeaderSets w0 w1 (wf_int w2) w3) (.cons (e0) (.cons (e1) (.cons (.int _ _) (.cons (e3) (.nil)))))).mono fun e W' ⟨he, bel⟩ => ?_
  subst he
  exact ⟨_, rfl, _, _, _, [], _, [], hW', trodAll_mk1 (shut_bool Try.underlying4 _), (trodAll_cons_mk (Below.trod jf1 (by kernel_rfl) (of_decide_eq_true (by kernel_rfl)) k0 bel lt0) (trodAll_cons_mk (Below.trod jf1 (by kernel_rfl) (of_decide_eq_true (by kernel_rfl)) k1 bel lt1) (trodAll_cons_mk (shut_int Try.underlying3 w2) (trodAll_cons_mk (Below.trod jf1 (by kernel_rfl) (of_decide_eq_true (by kernel_rfl)) k3 bel lt3) trodAll_mk0)))), rfl, bel.frame _, fun h => by cases h⟩
set_option maxRecDepth 100000 in
theorem jf0_HeaderSets : (Rows.headerSetsRow.wf (OpenSpec.ofChange Rows.headerSetsSpec)) = true := by kernel_rfl
set_option maxRecDepth 100000 in
theorem jf3_HeaderSets : (Try.f5.params.all (Try.prog.readableRec ·)) = true := by kernel_rfl
set_option maxRecDepth 100000 in
theorem jf4_HeaderSets : (namedTie Try.prog Rows.headerSetsRow.named Rows.headerSetsSpec.vars) = true := by kernel_rfl
set_option maxRecDepth 100000 in
theorem jf5_HeaderSets : ((Rows.headerSetsRow.stops == [])) = true := by kernel_rfl
set_option maxRecDepth 100000 in
theorem jf7_HeaderSets : ((Rows.headerSetsRow.knobs == [])) = true := by kernel_rfl
set_option maxRecDepth 100000 in
theorem jf9_HeaderSets : ((Rows.headerSetsRow.inPlace == Try.prog.inPlace 5)) = true := by kernel_rfl
set_option maxRecDepth 100000 in
theorem jf10_HeaderSets : ((Rows.headerSetsRow.unfollowed == Try.prog.unfollowed 5)) = true := by kernel_rfl
set_option maxRecDepth 100000 in
theorem jf11_HeaderSets : ((Rows.headerSetsRow.recurses == Try.prog.recurses 5)) = true := by kernel_rfl
set_option maxRecDepth 100000 in
theorem jf12_HeaderSets : ((Rows.headerSetsRow.named == Try.prog.varsNamed 5)) = true := by kernel_rfl
set_option maxRecDepth 100000 in
theorem jf13_HeaderSets : ((Rows.headerSetsRow.maps == (Try.f5.params.toList ++ Rows.headerSetsSpec.plain.varTypes Try.prog).any (Try.prog.mapsRec ·))) = true := by kernel_rfl
set_option maxRecDepth 100000 in
theorem jf14_HeaderSets : ((Rows.headerSetsRow.ifaces == (Try.f5.params.toList ++ Rows.headerSetsSpec.plain.varTypes Try.prog).any (Try.prog.ifacesRec ·))) = true := by kernel_rfl
set_option maxRecDepth 100000 in
theorem jf15_HeaderSets : ((Rows.headerSetsRow.mapsOut == Try.prog.mapsAmong Try.f5.resultTypes.toList)) = true := by kernel_rfl
set_option maxRecDepth 100000 in
theorem jf16_HeaderSets : ((Rows.headerSetsRow.loops == (Try.f5.params.toList ++ Rows.headerSetsSpec.plain.varTypes Try.prog).any (Try.prog.loopsFrom ·))) = true := by kernel_rfl
set_option maxRecDepth 100000 in
theorem jf17_HeaderSets : ((Rows.headerSetsRow.wideKeys == (Try.f5.params.toList ++ Rows.headerSetsSpec.plain.varTypes Try.prog ++ Try.f5.resultTypes.toList).any (Try.prog.wideKeysFrom ·))) = true := by kernel_rfl
set_option maxRecDepth 100000 in
theorem jf18_HeaderSets : (Rows.headerSetsSpec.vars.all (Try.prog.varReadable ·)) = true := by kernel_rfl
set_option maxRecDepth 100000 in
theorem jf19_HeaderSets : (Try.f5.resultTypes.all (fun t => Try.prog.readableRec t && decide (t < Try.prog.types.size))) = true := by kernel_rfl
set_option maxRecDepth 100000 in
theorem jf20_HeaderSets : ((Rows.headerSetsRow.ifacesOut == Try.f5.resultTypes.toList.any (Try.prog.ifacesRec ·))) = true := by kernel_rfl
set_option maxRecDepth 100000 in
theorem jf21_HeaderSets : ((Rows.headerSetsRow.loopsOut == Try.f5.resultTypes.toList.any (Try.prog.loopsFrom ·))) = true := by kernel_rfl
set_option maxRecDepth 100000 in
theorem jf22_HeaderSets : ((Rows.headerSetsRow.plainKeys == Try.prog.plainKeys)) = true := by kernel_rfl
set_option maxRecDepth 100000 in
theorem jf23_HeaderSets : (Rows.headerSetsRow.shortTexts.isNone) = true := by kernel_rfl
set_option maxRecDepth 100000 in
theorem jf26_HeaderSets : ((Rows.headerSetsRow.lifted == Try.prog.liftsFinal)) = true := by rw [lifts_eq]; rfl
set_option maxRecDepth 100000 in
theorem jf27_HeaderSets : ((Try.prog.make == some Rows.headerSetsRow.make)) = true := by rw [make_eq]; rfl
set_option maxRecDepth 100000 in
theorem jf28_HeaderSets : ((Rows.headerSetsRow.kinds == (if Rows.headerSetsRow.domain.isEmpty then [] else Try.f5.params.toList.map fun t => match Try.prog.underlying t with | some (.int k) => some k | _ => none))) = true := by kernel_rfl
set_option maxRecDepth 100000 in
theorem jf29_HeaderSets : ((Rows.headerSetsRow.pinned == Rows.headerSetsRow.pinnedBy)) = true := by kernel_rfl
set_option maxRecDepth 100000 in
theorem jf30_HeaderSets : ((Rows.headerSetsRow.veiled == (Try.f5.params.toList ++ Rows.headerSetsSpec.plain.varTypes Try.prog ++ Try.f5.resultTypes.toList).any (Try.prog.veiledRec ·))) = true := by kernel_rfl
set_option maxRecDepth 100000 in
theorem jf31_HeaderSets : (Rows.headerSetsRow.veiledFits Try.prog Try.f5.params.toList (Try.f5.params.toList ++ Rows.headerSetsSpec.plain.varTypes Try.prog ++ Try.f5.resultTypes.toList)) = true := by kernel_rfl
/-- HeaderSets holds. -/
theorem headerSets_holds : Rows.HeaderSetsSaid :=
  OpenClaim.holds_of_wide 5 Try.f5 rfl rfl rfl rfl rfl rfl rfl ⟨rfl, rfl, rfl, rfl, rfl⟩ rfl rfl rfl rfl rfl (by kernel_rfl) Try.func5 (joined_of jf0_HeaderSets jf1 jf2 jf3_HeaderSets jf4_HeaderSets jf5_HeaderSets jf6 jf7_HeaderSets jf8 jf9_HeaderSets jf10_HeaderSets jf11_HeaderSets jf12_HeaderSets jf13_HeaderSets jf14_HeaderSets jf15_HeaderSets jf16_HeaderSets jf17_HeaderSets jf18_HeaderSets jf19_HeaderSets jf20_HeaderSets jf21_HeaderSets jf22_HeaderSets jf23_HeaderSets jf24 jf25 jf26_HeaderSets jf27_HeaderSets jf28_HeaderSets jf29_HeaderSets jf30_HeaderSets jf31_HeaderSets)
    (of_decide_eq_true (by kernel_rfl)) (by unfold Func.isWrapper; first | (rw [if_pos (by decide +kernel)]; kernel_rfl) | (rw [if_neg (by decide +kernel)]; exact ⟨rfl, rfl⟩))
    (fun os started H enc _ => lifted_HeaderSets os started H enc)
end Go.Proofs.Ytdcijmigoefnjaa
