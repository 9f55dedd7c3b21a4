import Derived.Test.YtdcijmigoefnjaaRows
import Derived.Test.YtdcijmigoefnjaaEvLa
import Derived.Test.YtdcijmigoefnjaaJf
import Derived.Test.YtdcijmigoefnjaaL11r
import Derived.WalkKit
import Derived.ProofKit
import Derived.OpenShut
import Derived.ShutString
import Derived.ChangeOld
import Derived.Below
import Derived.SizedLaws
/- The row of MatchNeeds, out of its call. -/
set_option linter.unusedVariables false
set_option maxRecDepth 100000
namespace Go.Proofs.Ytdcijmigoefnjaa
open Go Go.Ev Go.ChangeShapes Go.WideShapes Go.ChangeAt Go.RowKit
open Go.ChangeMaps (open_string shut_string)
theorem own_MatchNeeds : ownKnob Try.prog.godebug = none := by kernel_rfl
set_option maxRecDepth 100000 in
theorem lifted_MatchNeeds (os : Os) (started : os.Started) (H : Type) (enc : TypeId × Value → H) :
    ReturnsInHanded {} Try.checked os 21 .any (Rows.matchNeedsSpec.pre6 enc Try.prog Try.f21 Rows.matchNeedsRow.domain false) (Rows.matchNeedsSpec.post enc Try.prog Try.f21 false true false false) := by
  refine returnsInHanded_of_change_sized (C := Try.checked) own_MatchNeeds started (by kernel_rfl) Try.func21
    (ChangeSpec.witness6 (enc := enc) (C := Try.checked) false ⟨#[], #[.slice none 0 0, .agg #[.int .u64 0, .int .u64 0, .int .u64 0, .int .u64 0, .int .u64 0, .int .u64 0, .int .u64 0, .int .u64 0, .int .u64 0, .int .u64 0, .int .u64 0, .int .u64 0, .int .u64 0, .int .u64 0, .int .u64 0, .int .u64 0, .int .u64 0, .int .u64 0, .int .u64 0, .int .u64 0, .int .u64 0, .int .u64 0, .int .u64 0, .int .u64 0, .int .u64 0, .int .u64 0, .int .u64 0, .int .u64 0, .int .u64 0, .int .u64 0, .int .u64 0, .int .u64 0, .int .u64 0, .int .u64 0, .int .u64 0, .int .u64 0, .int .u64 0, .int .u64 0, .int .u64 0, .int .u64 0, .int .u64 0, .int .u64 0, .int .u64 0, .int .u64 0, .int .u64 0, .int .u64 0, .int .u64 0, .int .u64 0]], []⟩ 8 (by kernel_rfl) (by kernel_rfl) (by kernel_rfl) (by kernel_rfl)) ?_
  intro W base args ds gs before hval0 hW hcnd hsz0 _
  have hval : ∀ (j : Nat) t v, Try.f21.params[j]? = some t → args[j]? = some v → Value.okWide Try.prog W .any base t v := hval0
  have hW' := hW
  obtain ⟨p, q, hA0, hV, rfl, hfz, hnd⟩ := hW
  have hA : DataW.TrodAll enc Try.prog W 0 (fun _ => true) true Try.f21.params.toList args.toList ds p := hA0
  rw [Try.params21] at hA hval
  obtain ⟨v0, vs0, d0, ds0, p0, q0, hargs, rfl, rfl, h0, r0⟩ := trodAll_cons hA
  obtain ⟨v1, vs1, d1, ds1, p1, q1, rfl, rfl, rfl, h1, r1⟩ := trodAll_cons r0
  obtain ⟨rfl, rfl, rfl⟩ := trodAll_nil r1
  obtain rfl : args = #[v0, v1] := by cases args; simp_all
  obtain ⟨rfl, rfl⟩ := trodVars_none hV
  have k0 := h0
  have lt0 : ∀ x ∈ p0, x.block < W.heap.size := by obtain ⟨m, hm⟩ := k0; exact DataW.trod_lt m _ _ _ hm
  obtain ⟨a0, w0, z0, e0⟩ := open_sliceA (d := 9) (ls := [.int .i64, .bool, .int .u64, .int .u64, .int .u64, .int .u64]) Try.underlying84 (by kernel_rfl) (by kernel_rfl) (by decide) h0 (hval 0 84 v0 rfl rfl)
  have k1 := h1
  have lt1 : ∀ x ∈ p1, x.block < W.heap.size := by obtain ⟨m, hm⟩ := k1; exact DataW.trod_lt m _ _ _ hm
  have g1 : ∃ cs, v1 = .agg cs := by
    have := (hval 1 39 v1 rfl rfl)
    simp only [Value.okWide, Try.underlying39] at this
    obtain ⟨cs, h, _⟩ := this
    exact ⟨cs, h⟩
  obtain ⟨a1, w1, e1⟩ := open_aggA (S := AllS W) (ws := W) (d := 9) (ls := (repL 24 [.int .u64, .int .u64])) h1 (by kernel_rfl) g1
  clear hA0 hval0 hsz0
  refine (CallsA.below (cMatchNeeds w0 z0 w1) (.cons (e0) (.cons (e1) (.nil)))).mono fun e W' ⟨he, bel⟩ => ?_
  subst he
  exact ⟨_, rfl, _, _, _, [], _, [], hW', trodAll_mk1 (shut_bool Try.underlying4 _), (trodAll_cons_mk (Below.trod jf1 (by kernel_rfl) (of_decide_eq_true (by kernel_rfl)) k0 bel lt0) (trodAll_cons_mk (Below.trod jf1 (by kernel_rfl) (of_decide_eq_true (by kernel_rfl)) k1 bel lt1) trodAll_mk0)), rfl, bel.frame _, fun h => by cases h⟩
set_option maxRecDepth 100000 in
theorem jf0_MatchNeeds : (Rows.matchNeedsRow.wf (OpenSpec.ofChange Rows.matchNeedsSpec)) = true := by kernel_rfl
set_option maxRecDepth 100000 in
theorem jf3_MatchNeeds : (Try.f21.params.all (Try.prog.readableRec ·)) = true := by kernel_rfl
set_option maxRecDepth 100000 in
theorem jf4_MatchNeeds : (namedTie Try.prog Rows.matchNeedsRow.named Rows.matchNeedsSpec.vars) = true := by kernel_rfl
set_option maxRecDepth 100000 in
theorem jf5_MatchNeeds : ((Rows.matchNeedsRow.stops == [])) = true := by kernel_rfl
set_option maxRecDepth 100000 in
theorem jf7_MatchNeeds : ((Rows.matchNeedsRow.knobs == [])) = true := by kernel_rfl
set_option maxRecDepth 100000 in
theorem jf9_MatchNeeds : ((Rows.matchNeedsRow.inPlace == Try.prog.inPlace 21)) = true := by kernel_rfl
set_option maxRecDepth 100000 in
theorem jf10_MatchNeeds : ((Rows.matchNeedsRow.unfollowed == Try.prog.unfollowed 21)) = true := by kernel_rfl
set_option maxRecDepth 100000 in
theorem jf11_MatchNeeds : ((Rows.matchNeedsRow.recurses == Try.prog.recurses 21)) = true := by kernel_rfl
set_option maxRecDepth 100000 in
theorem jf12_MatchNeeds : ((Rows.matchNeedsRow.named == Try.prog.varsNamed 21)) = true := by kernel_rfl
set_option maxRecDepth 100000 in
theorem jf13_MatchNeeds : ((Rows.matchNeedsRow.maps == (Try.f21.params.toList ++ Rows.matchNeedsSpec.plain.varTypes Try.prog).any (Try.prog.mapsRec ·))) = true := by kernel_rfl
set_option maxRecDepth 100000 in
theorem jf14_MatchNeeds : ((Rows.matchNeedsRow.ifaces == (Try.f21.params.toList ++ Rows.matchNeedsSpec.plain.varTypes Try.prog).any (Try.prog.ifacesRec ·))) = true := by kernel_rfl
set_option maxRecDepth 100000 in
theorem jf15_MatchNeeds : ((Rows.matchNeedsRow.mapsOut == Try.prog.mapsAmong Try.f21.resultTypes.toList)) = true := by kernel_rfl
set_option maxRecDepth 100000 in
theorem jf16_MatchNeeds : ((Rows.matchNeedsRow.loops == (Try.f21.params.toList ++ Rows.matchNeedsSpec.plain.varTypes Try.prog).any (Try.prog.loopsFrom ·))) = true := by kernel_rfl
set_option maxRecDepth 100000 in
theorem jf17_MatchNeeds : ((Rows.matchNeedsRow.wideKeys == (Try.f21.params.toList ++ Rows.matchNeedsSpec.plain.varTypes Try.prog ++ Try.f21.resultTypes.toList).any (Try.prog.wideKeysFrom ·))) = true := by kernel_rfl
set_option maxRecDepth 100000 in
theorem jf18_MatchNeeds : (Rows.matchNeedsSpec.vars.all (Try.prog.varReadable ·)) = true := by kernel_rfl
set_option maxRecDepth 100000 in
theorem jf19_MatchNeeds : (Try.f21.resultTypes.all (fun t => Try.prog.readableRec t && decide (t < Try.prog.types.size))) = true := by kernel_rfl
set_option maxRecDepth 100000 in
theorem jf20_MatchNeeds : ((Rows.matchNeedsRow.ifacesOut == Try.f21.resultTypes.toList.any (Try.prog.ifacesRec ·))) = true := by kernel_rfl
set_option maxRecDepth 100000 in
theorem jf21_MatchNeeds : ((Rows.matchNeedsRow.loopsOut == Try.f21.resultTypes.toList.any (Try.prog.loopsFrom ·))) = true := by kernel_rfl
set_option maxRecDepth 100000 in
theorem jf22_MatchNeeds : ((Rows.matchNeedsRow.plainKeys == Try.prog.plainKeys)) = true := by kernel_rfl
set_option maxRecDepth 100000 in
theorem jf23_MatchNeeds : (Rows.matchNeedsRow.shortTexts.isNone) = true := by kernel_rfl
set_option maxRecDepth 100000 in
theorem jf26_MatchNeeds : ((Rows.matchNeedsRow.lifted == Try.prog.liftsFinal)) = true := by rw [lifts_eq]; rfl
set_option maxRecDepth 100000 in
theorem jf27_MatchNeeds : ((Try.prog.make == some Rows.matchNeedsRow.make)) = true := by rw [make_eq]; rfl
set_option maxRecDepth 100000 in
theorem jf28_MatchNeeds : ((Rows.matchNeedsRow.kinds == (if Rows.matchNeedsRow.domain.isEmpty then [] else Try.f21.params.toList.map fun t => match Try.prog.underlying t with | some (.int k) => some k | _ => none))) = true := by kernel_rfl
set_option maxRecDepth 100000 in
theorem jf29_MatchNeeds : ((Rows.matchNeedsRow.pinned == Rows.matchNeedsRow.pinnedBy)) = true := by kernel_rfl
set_option maxRecDepth 100000 in
theorem jf30_MatchNeeds : ((Rows.matchNeedsRow.veiled == (Try.f21.params.toList ++ Rows.matchNeedsSpec.plain.varTypes Try.prog ++ Try.f21.resultTypes.toList).any (Try.prog.veiledRec ·))) = true := by kernel_rfl
set_option maxRecDepth 100000 in
theorem jf31_MatchNeeds : (Rows.matchNeedsRow.veiledFits Try.prog Try.f21.params.toList (Try.f21.params.toList ++ Rows.matchNeedsSpec.plain.varTypes Try.prog ++ Try.f21.resultTypes.toList)) = true := by kernel_rfl
/-- MatchNeeds holds. -/
theorem matchNeeds_holds : Rows.MatchNeedsSaid :=
  OpenClaim.holds_of_wide 21 Try.f21 rfl rfl rfl rfl rfl rfl rfl ⟨rfl, rfl, rfl, rfl, rfl⟩ rfl rfl rfl rfl rfl (by kernel_rfl) Try.func21 (joined_of jf0_MatchNeeds jf1 jf2 jf3_MatchNeeds jf4_MatchNeeds jf5_MatchNeeds jf6 jf7_MatchNeeds jf8 jf9_MatchNeeds jf10_MatchNeeds jf11_MatchNeeds jf12_MatchNeeds jf13_MatchNeeds jf14_MatchNeeds jf15_MatchNeeds jf16_MatchNeeds jf17_MatchNeeds jf18_MatchNeeds jf19_MatchNeeds jf20_MatchNeeds jf21_MatchNeeds jf22_MatchNeeds jf23_MatchNeeds jf24 jf25 jf26_MatchNeeds jf27_MatchNeeds jf28_MatchNeeds jf29_MatchNeeds jf30_MatchNeeds jf31_MatchNeeds)
    (of_decide_eq_true (by kernel_rfl)) (by unfold Func.isWrapper; first | (rw [if_pos (by decide +kernel)]; kernel_rfl) | (rw [if_neg (by decide +kernel)]; exact ⟨rfl, rfl⟩))
    (fun os started H enc _ => lifted_MatchNeeds os started H enc)
end Go.Proofs.Ytdcijmigoefnjaa
