/- The row of HeaderPuts, out of its call. -/
import Derived.Test.YtdcijmigoefnjaaRows
import Derived.Test.YtdcijmigoefnjaaEvLa
import Derived.Test.YtdcijmigoefnjaaJf
import Derived.Test.YtdcijmigoefnjaaL04m
import Derived.WalkKit
import Derived.ProofKit
import Derived.OpenShut
import Derived.ShutString
import Derived.ChangeOld
import Derived.Below
import Derived.SizedLaws
set_option linter.unusedVariables false
set_option maxRecDepth 100000
namespace Go.Proofs.Ytdcijmigoefnjaa
open Go Go.Ev Go.ChangeShapes Go.WideShapes Go.ChangeAt Go.RowKit
open Go.ChangeMaps (open_string shut_string)
theorem own_HeaderPuts : ownKnob Try.prog.godebug = none := by kernel_rfl
set_option maxRecDepth 100000 in
theorem lifted_HeaderPuts (os : Os) (started : os.Started) (H : Type) (enc : TypeId × Value → H) :
    ReturnsInHanded {} Try.checked os 8 .any (Rows.headerPutsSpec.pre6 enc Try.prog Try.f8 Rows.headerPutsRow.domain false) (Rows.headerPutsSpec.post enc Try.prog Try.f8 false true false false) := by
  refine returnsInHanded_of_change_sized (C := Try.checked) own_HeaderPuts started (by kernel_rfl) Try.func8
    (ChangeSpec.witness6 (enc := enc) (C := Try.checked) false ⟨#[], #[.agg #[.int .u64 0, .int .u64 0, .int .u64 0, .int .u64 0, .int .u64 0, .int .u64 0, .int .u64 0, .int .u64 0, .int .u64 0, .int .u64 0, .int .u64 0, .int .u64 0, .int .u64 0, .int .u64 0, .int .u64 0, .int .u64 0, .int .u64 0, .int .u64 0, .int .u64 0, .int .u64 0, .int .u64 0, .int .u64 0, .int .u64 0, .int .u64 0, .int .u64 0, .int .u64 0, .int .u64 0, .int .u64 0, .int .u64 0, .int .u64 0, .int .u64 0, .int .u64 0, .int .u64 0, .int .u64 0, .int .u64 0, .int .u64 0, .int .u64 0, .int .u64 0, .int .u64 0, .int .u64 0, .int .u64 0, .int .u64 0, .int .u64 0, .int .u64 0, .int .u64 0, .int .u64 0, .int .u64 0, .int .u64 0], .slice none 0 0], []⟩ 8 (by kernel_rfl) (by kernel_rfl) (by kernel_rfl) (by kernel_rfl)) ?_
  intro W base args ds gs before hval0 hW hcnd hsz0 _
  have hval : ∀ (j : Nat) t v, Try.f8.params[j]? = some t → args[j]? = some v → Value.okWide Try.prog W .any base t v := hval0
  have hW' := hW
  obtain ⟨p, q, hA0, hV, rfl, hfz, hnd⟩ := hW
  have hA : DataW.TrodAll enc Try.prog W 0 (fun _ => true) true Try.f8.params.toList args.toList ds p := hA0
  rw [Try.params8] at hA hval
  obtain ⟨v0, vs0, d0, ds0, p0, q0, hargs, rfl, rfl, h0, r0⟩ := trodAll_cons hA
  obtain ⟨v1, vs1, d1, ds1, p1, q1, rfl, rfl, rfl, h1, r1⟩ := trodAll_cons r0
  obtain ⟨rfl, rfl, rfl⟩ := trodAll_nil r1
  obtain rfl : args = #[v0, v1] := by cases args; simp_all
  obtain ⟨rfl, rfl⟩ := trodVars_none hV
  have k0 := h0
  have lt0 : ∀ x ∈ p0, x.block < W.heap.size := by obtain ⟨m, hm⟩ := k0; exact DataW.trod_lt m _ _ _ hm
  have g0 : ∃ cs, v0 = .agg cs := by
    have := (hval 0 39 v0 rfl rfl)
    simp only [Value.okWide, Try.underlying39] at this
    obtain ⟨cs, h, _⟩ := this
    exact ⟨cs, h⟩
  obtain ⟨a0, w0, e0⟩ := open_aggA (S := AllS W) (ws := W) (d := 9) (ls := (repL 24 [.int .u64, .int .u64])) h0 (by kernel_rfl) g0
  have k1 := h1
  have lt1 : ∀ x ∈ p1, x.block < W.heap.size := by obtain ⟨m, hm⟩ := k1; exact DataW.trod_lt m _ _ _ hm
  obtain ⟨a1, w1, z1, e1⟩ := open_sliceA (d := 9) (ls := [.int .u8]) Try.underlying52 (by kernel_rfl) (by kernel_rfl) (by decide) h1 (hval 1 52 v1 rfl rfl)
  clear hA0 hval0 hsz0
  refine (CallsA.below (cHeaderPuts w0 w1 z1) (.cons (e0) (.cons (e1) (.nil)))).mono fun e W' ⟨he, bel⟩ => ?_
  subst he
  exact ⟨_, rfl, _, _, _, [], _, [], hW', trodAll_mk1 (shut_bool Try.underlying4 _), (trodAll_cons_mk (Below.trod jf1 (by kernel_rfl) (of_decide_eq_true (by kernel_rfl)) k0 bel lt0) (trodAll_cons_mk (Below.trod jf1 (by kernel_rfl) (of_decide_eq_true (by kernel_rfl)) k1 bel lt1) trodAll_mk0)), rfl, bel.frame _, fun h => by cases h⟩
set_option maxRecDepth 100000 in
theorem jf0_HeaderPuts : (Rows.headerPutsRow.wf (OpenSpec.ofChange Rows.headerPutsSpec)) = true := by kernel_rfl
set_option maxRecDepth 100000 in
theorem jf3_HeaderPuts : (Try.f8.params.all (Try.prog.readableRec ·)) = true := by kernel_rfl
set_option maxRecDepth 100000 in
theorem jf4_HeaderPuts : (namedTie Try.prog Rows.headerPutsRow.named Rows.headerPutsSpec.vars) = true := by kernel_rfl
set_option maxRecDepth 100000 in
theorem jf5_HeaderPuts : ((Rows.headerPutsRow.stops == [])) = true := by kernel_rfl
set_option maxRecDepth 100000 in
theorem jf7_HeaderPuts : ((Rows.headerPutsRow.knobs == [])) = true := by kernel_rfl
set_option maxRecDepth 100000 in
theorem jf9_HeaderPuts : ((Rows.headerPutsRow.inPlace == Try.prog.inPlace 8)) = true := by kernel_rfl
set_option maxRecDepth 100000 in
theorem jf10_HeaderPuts : ((Rows.headerPutsRow.unfollowed == Try.prog.unfollowed 8)) = true := by kernel_rfl
set_option maxRecDepth 100000 in
theorem jf11_HeaderPuts : ((Rows.headerPutsRow.recurses == Try.prog.recurses 8)) = true := by kernel_rfl
set_option maxRecDepth 100000 in
theorem jf12_HeaderPuts : ((Rows.headerPutsRow.named == Try.prog.varsNamed 8)) = true := by kernel_rfl
set_option maxRecDepth 100000 in
theorem jf13_HeaderPuts : ((Rows.headerPutsRow.maps == (Try.f8.params.toList ++ Rows.headerPutsSpec.plain.varTypes Try.prog).any (Try.prog.mapsRec ·))) = true := by kernel_rfl
set_option maxRecDepth 100000 in
theorem jf14_HeaderPuts : ((Rows.headerPutsRow.ifaces == (Try.f8.params.toList ++ Rows.headerPutsSpec.plain.varTypes Try.prog).any (Try.prog.ifacesRec ·))) = true := by kernel_rfl
set_option maxRecDepth 100000 in
theorem jf15_HeaderPuts : ((Rows.headerPutsRow.mapsOut == Try.prog.mapsAmong Try.f8.resultTypes.toList)) = true := by kernel_rfl
set_option maxRecDepth 100000 in
theorem jf16_HeaderPuts : ((Rows.headerPutsRow.loops == (Try.f8.params.toList ++ Rows.headerPutsSpec.plain.varTypes Try.prog).any (Try.prog.loopsFrom ·))) = true := by kernel_rfl
set_option maxRecDepth 100000 in
theorem jf17_HeaderPuts : ((Rows.headerPutsRow.wideKeys == (Try.f8.params.toList ++ Rows.headerPutsSpec.plain.varTypes Try.prog ++ Try.f8.resultTypes.toList).any (Try.prog.wideKeysFrom ·))) = true := by kernel_rfl
set_option maxRecDepth 100000 in
theorem jf18_HeaderPuts : (Rows.headerPutsSpec.vars.all (Try.prog.varReadable ·)) = true := by kernel_rfl
set_option maxRecDepth 100000 in
theorem jf19_HeaderPuts : (Try.f8.resultTypes.all (fun t => Try.prog.readableRec t && decide (t < Try.prog.types.size))) = true := by kernel_rfl
set_option maxRecDepth 100000 in
theorem jf20_HeaderPuts : ((Rows.headerPutsRow.ifacesOut == Try.f8.resultTypes.toList.any (Try.prog.ifacesRec ·))) = true := by kernel_rfl
set_option maxRecDepth 100000 in
theorem jf21_HeaderPuts : ((Rows.headerPutsRow.loopsOut == Try.f8.resultTypes.toList.any (Try.prog.loopsFrom ·))) = true := by kernel_rfl
set_option maxRecDepth 100000 in
theorem jf22_HeaderPuts : ((Rows.headerPutsRow.plainKeys == Try.prog.plainKeys)) = true := by kernel_rfl
set_option maxRecDepth 100000 in
theorem jf23_HeaderPuts : (Rows.headerPutsRow.shortTexts.isNone) = true := by kernel_rfl
set_option maxRecDepth 100000 in
theorem jf26_HeaderPuts : ((Rows.headerPutsRow.lifted == Try.prog.liftsFinal)) = true := by rw [lifts_eq]; rfl
set_option maxRecDepth 100000 in
theorem jf27_HeaderPuts : ((Try.prog.make == some Rows.headerPutsRow.make)) = true := by rw [make_eq]; rfl
set_option maxRecDepth 100000 in
theorem jf28_HeaderPuts : ((Rows.headerPutsRow.kinds == (if Rows.headerPutsRow.domain.isEmpty then [] else Try.f8.params.toList.map fun t => match Try.prog.underlying t with | some (.int k) => some k | _ => none))) = true := by kernel_rfl
set_option maxRecDepth 100000 in
theorem jf29_HeaderPuts : ((Rows.headerPutsRow.pinned == Rows.headerPutsRow.pinnedBy)) = true := by kernel_rfl
set_option maxRecDepth 100000 in
theorem jf30_HeaderPuts : ((Rows.headerPutsRow.veiled == (Try.f8.params.toList ++ Rows.headerPutsSpec.plain.varTypes Try.prog ++ Try.f8.resultTypes.toList).any (Try.prog.veiledRec ·))) = true := by kernel_rfl
set_option maxRecDepth 100000 in
theorem jf31_HeaderPuts : (Rows.headerPutsRow.veiledFits Try.prog Try.f8.params.toList (Try.f8.params.toList ++ Rows.headerPutsSpec.plain.varTypes Try.prog ++ Try.f8.resultTypes.toList)) = true := by kernel_rfl
/-- HeaderPuts holds. -/
theorem headerPuts_holds : Rows.HeaderPutsSaid :=
  OpenClaim.holds_of_wide 8 Try.f8 rfl rfl rfl rfl rfl rfl rfl ⟨rfl, rfl, rfl, rfl, rfl⟩ rfl rfl rfl rfl rfl (by kernel_rfl) Try.func8 (joined_of jf0_HeaderPuts jf1 jf2 jf3_HeaderPuts jf4_HeaderPuts jf5_HeaderPuts jf6 jf7_HeaderPuts jf8 jf9_HeaderPuts jf10_HeaderPuts jf11_HeaderPuts jf12_HeaderPuts jf13_HeaderPuts jf14_HeaderPuts jf15_HeaderPuts jf16_HeaderPuts jf17_HeaderPuts jf18_HeaderPuts jf19_HeaderPuts jf20_HeaderPuts jf21_HeaderPuts jf22_HeaderPuts jf23_HeaderPuts jf24 jf25 jf26_HeaderPuts jf27_HeaderPuts jf28_HeaderPuts jf29_HeaderPuts jf30_HeaderPuts jf31_HeaderPuts)
    (of_decide_eq_true (by kernel_rfl)) (by unfold Func.isWrapper; first | (rw [if_pos (by decide +kernel)]; kernel_rfl) | (rw [if_neg (by decide +kernel)]; exact ⟨rfl, rfl⟩))
    (fun os started H enc _ => lifted_HeaderPuts os started H enc)
end Go.Proofs.Ytdcijmigoefnjaa
