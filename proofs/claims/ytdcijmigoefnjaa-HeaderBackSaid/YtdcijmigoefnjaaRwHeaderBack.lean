/- The row of HeaderBack, out of its call. -/
import Derived.Test.YtdcijmigoefnjaaRows
import Derived.Test.YtdcijmigoefnjaaEvLa
import Derived.Test.YtdcijmigoefnjaaJf
import Derived.Test.YtdcijmigoefnjaaL04m
import Derived.WalkKit
import Derived.ProofKit
import Derived.OpenShut
import Derived.ShutString
import Derived.ChangeOld
import Derived.Below
import Derived.SizedLaws
set_option linter.unusedVariables false
set_option maxRecDepth 100000
namespace Go.Proofs.Ytdcijmigoefnjaa
open Go Go.Ev Go.ChangeShapes Go.WideShapes Go.ChangeAt Go.RowKit
open Go.ChangeMaps (open_string shut_string)
theorem own_HeaderBack : ownKnob Try.prog.godebug = none := by kernel_rfl
set_option maxRecDepth 100000 in
theorem lifted_HeaderBack (os : Os) (started : os.Started) (H : Type) (enc : TypeId × Value → H) :
    ReturnsInHanded {} Try.checked os 9 .any (Rows.headerBackSpec.pre6 enc Try.prog Try.f9 Rows.headerBackRow.domain false) (Rows.headerBackSpec.post enc Try.prog Try.f9 false true false false) := by
  refine returnsInHanded_of_change_sized (C := Try.checked) own_HeaderBack started (by kernel_rfl) Try.func9
    (ChangeSpec.witness6 (enc := enc) (C := Try.checked) false ⟨#[], #[.agg #[.int .u64 0, .int .u64 0, .int .u64 0, .int .u64 0, .int .u64 0, .int .u64 0, .int .u64 0, .int .u64 0, .int .u64 0, .int .u64 0, .int .u64 0, .int .u64 0, .int .u64 0, .int .u64 0, .int .u64 0, .int .u64 0, .int .u64 0, .int .u64 0, .int .u64 0, .int .u64 0, .int .u64 0, .int .u64 0, .int .u64 0, .int .u64 0, .int .u64 0, .int .u64 0, .int .u64 0, .int .u64 0, .int .u64 0, .int .u64 0, .int .u64 0, .int .u64 0, .int .u64 0, .int .u64 0, .int .u64 0, .int .u64 0, .int .u64 0, .int .u64 0, .int .u64 0, .int .u64 0, .int .u64 0, .int .u64 0, .int .u64 0, .int .u64 0, .int .u64 0, .int .u64 0, .int .u64 0, .int .u64 0], .slice none 0 0], []⟩ 8 (by kernel_rfl) (by kernel_rfl) (by kernel_rfl) (by kernel_rfl)) ?_
  intro W base args ds gs before hval0 hW hcnd hsz0 _
  have hval : ∀ (j : Nat) t v, Try.f9.params[j]? = some t → args[j]? = some v → Value.okWide Try.prog W .any base t v := hval0
  have hW' := hW
  obtain ⟨p, q, hA0, hV, rfl, hfz, hnd⟩ := hW
  have hA : DataW.TrodAll enc Try.prog W 0 (fun _ => true) true Try.f9.params.toList args.toList ds p := hA0
  rw [Try.params9] at hA hval
  obtain ⟨v0, vs0, d0, ds0, p0, q0, hargs, rfl, rfl, h0, r0⟩ := trodAll_cons hA
  obtain ⟨v1, vs1, d1, ds1, p1, q1, rfl, rfl, rfl, h1, r1⟩ := trodAll_cons r0
  obtain ⟨rfl, rfl, rfl⟩ := trodAll_nil r1
  obtain rfl : args = #[v0, v1] := by cases args; simp_all
  obtain ⟨rfl, rfl⟩ := trodVars_none hV
  have k0 := h0
  have lt0 : ∀ x ∈ p0, x.block < W.heap.size := by obtain ⟨m, hm⟩ := k0; exact DataW.trod_lt m _ _ _ hm
  have g0 : ∃ cs, v0 = .agg cs := by
    have := (hval 0 39 v0 rfl rfl)
    simp only [Value.okWide, Try.underlying39] at this
    obtain ⟨cs, h, _⟩ := this
    exact ⟨cs, h⟩
  obtain ⟨a0, w0, e0⟩ := open_aggA (S := AllS W) (ws := W) (d := 9) (ls := (repL 24 [.int .u64, .int .u64])) h0 (by kernel_rfl) g0
  have k1 := h1
  have lt1 : ∀ x ∈ p1, x.block < W.heap.size := by obtain ⟨m, hm⟩ := k1; exact DataW.trod_lt m _ _ _ hm
  obtain ⟨a1, w1, z1, e1⟩ := open_sliceA (d := 9) (ls := [.int .u8]) Try.underlying52 (by kernel_rfl) (by kernel_rfl) (by decide) h1 (hval 1 52 v1 rfl rfl)
  clear hA0 hval0 hsz0
  refine (CallsA.below (cHeaderBack w0 w1 z1) (.cons (e0) (.cons (e1) (.nil)))).mono fun e W' ⟨he, bel⟩ => ?_
  subst he
  exact ⟨_, rfl, _, _, _, [], _, [], hW', trodAll_mk1 (shut_bool Try.underlying4 _), (trodAll_cons_mk (Below.trod jf1 (by kernel_rfl) (of_decide_eq_true (by kernel_rfl)) k0 bel lt0) (trodAll_cons_mk (Below.trod jf1 (by kernel_rfl) (of_decide_eq_true (by kernel_rfl)) k1 bel lt1) trodAll_mk0)), rfl, bel.frame _, fun h => by cases h⟩
set_option maxRecDepth 100000 in
theorem jf0_HeaderBack : (Rows.headerBackRow.wf (OpenSpec.ofChange Rows.headerBackSpec)) = true := by kernel_rfl
set_option maxRecDepth 100000 in
theorem jf3_HeaderBack : (Try.f9.params.all (Try.prog.readableRec ·)) = true := by kernel_rfl
set_option maxRecDepth 100000 in
theorem jf4_HeaderBack : (namedTie Try.prog Rows.headerBackRow.named Rows.headerBackSpec.vars) = true := by kernel_rfl
set_option maxRecDepth 100000 in
theorem jf5_HeaderBack : ((Rows.headerBackRow.stops == [])) = true := by kernel_rfl
set_option maxRecDepth 100000 in
theorem jf7_HeaderBack : ((Rows.headerBackRow.knobs == [])) = true := by kernel_rfl
set_option maxRecDepth 100000 in
theorem jf9_HeaderBack : ((Rows.headerBackRow.inPlace == Try.prog.inPlace 9)) = true := by kernel_rfl
set_option maxRecDepth 100000 in
theorem jf10_HeaderBack : ((Rows.headerBackRow.unfollowed == Try.prog.unfollowed 9)) = true := by kernel_rfl
set_option maxRecDepth 100000 in
theorem jf11_HeaderBack : ((Rows.headerBackRow.recurses == Try.prog.recurses 9)) = true := by kernel_rfl
set_option maxRecDepth 100000 in
theorem jf12_HeaderBack : ((Rows.headerBackRow.named == Try.prog.varsNamed 9)) = true := by kernel_rfl
set_option maxRecDepth 100000 in
theorem jf13_HeaderBack : ((Rows.headerBackRow.maps == (Try.f9.params.toList ++ Rows.headerBackSpec.plain.varTypes Try.prog).any (Try.prog.mapsRec ·))) = true := by kernel_rfl
set_option maxRecDepth 100000 in
theorem jf14_HeaderBack : ((Rows.headerBackRow.ifaces == (Try.f9.params.toList ++ Rows.headerBackSpec.plain.varTypes Try.prog).any (Try.prog.ifacesRec ·))) = true := by kernel_rfl
set_option maxRecDepth 100000 in
theorem jf15_HeaderBack : ((Rows.headerBackRow.mapsOut == Try.prog.mapsAmong Try.f9.resultTypes.toList)) = true := by kernel_rfl
set_option maxRecDepth 100000 in
theorem jf16_HeaderBack : ((Rows.headerBackRow.loops == (Try.f9.params.toList ++ Rows.headerBackSpec.plain.varTypes Try.prog).any (Try.prog.loopsFrom ·))) = true := by kernel_rfl
set_option maxRecDepth 100000 in
theorem jf17_HeaderBack : ((Rows.headerBackRow.wideKeys == (Try.f9.params.toList ++ Rows.headerBackSpec.plain.varTypes Try.prog ++ Try.f9.resultTypes.toList).any (Try.prog.wideKeysFrom ·))) = true := by kernel_rfl
set_option maxRecDepth 100000 in
theorem jf18_HeaderBack : (Rows.headerBackSpec.vars.all (Try.prog.varReadable ·)) = true := by kernel_rfl
set_option maxRecDepth 100000 in
theorem jf19_HeaderBack : (Try.f9.resultTypes.all (fun t => Try.prog.readableRec t && decide (t < Try.prog.types.size))) = true := by kernel_rfl
set_option maxRecDepth 100000 in
theorem jf20_HeaderBack : ((Rows.headerBackRow.ifacesOut == Try.f9.resultTypes.toList.any (Try.prog.ifacesRec ·))) = true := by kernel_rfl
set_option maxRecDepth 100000 in
theorem jf21_HeaderBack : ((Rows.headerBackRow.loopsOut == Try.f9.resultTypes.toList.any (Try.prog.loopsFrom ·))) = true := by kernel_rfl
set_option maxRecDepth 100000 in
theorem jf22_HeaderBack : ((Rows.headerBackRow.plainKeys == Try.prog.plainKeys)) = true := by kernel_rfl
set_option maxRecDepth 100000 in
theorem jf23_HeaderBack : (Rows.headerBackRow.shortTexts.isNone) = true := by kernel_rfl
set_option maxRecDepth 100000 in
theorem jf26_HeaderBack : ((Rows.headerBackRow.lifted == Try.prog.liftsFinal)) = true := by rw [lifts_eq]; rfl
set_option maxRecDepth 100000 in
theorem jf27_HeaderBack : ((Try.prog.make == some Rows.headerBackRow.make)) = true := by rw [make_eq]; rfl
set_option maxRecDepth 100000 in
theorem jf28_HeaderBack : ((Rows.headerBackRow.kinds == (if Rows.headerBackRow.domain.isEmpty then [] else Try.f9.params.toList.map fun t => match Try.prog.underlying t with | some (.int k) => some k | _ => none))) = true := by kernel_rfl
set_option maxRecDepth 100000 in
theorem jf29_HeaderBack : ((Rows.headerBackRow.pinned == Rows.headerBackRow.pinnedBy)) = true := by kernel_rfl
set_option maxRecDepth 100000 in
theorem jf30_HeaderBack : ((Rows.headerBackRow.veiled == (Try.f9.params.toList ++ Rows.headerBackSpec.plain.varTypes Try.prog ++ Try.f9.resultTypes.toList).any (Try.prog.veiledRec ·))) = true := by kernel_rfl
set_option maxRecDepth 100000 in
theorem jf31_HeaderBack : (Rows.headerBackRow.veiledFits Try.prog Try.f9.params.toList (Try.f9.params.toList ++ Rows.headerBackSpec.plain.varTypes Try.prog ++ Try.f9.resultTypes.toList)) = true := by kernel_rfl
/-- HeaderBack holds. -/
theorem headerBack_holds : Rows.HeaderBackSaid :=
  OpenClaim.holds_of_wide 9 Try.f9 rfl rfl rfl rfl rfl rfl rfl ⟨rfl, rfl, rfl, rfl, rfl⟩ rfl rfl rfl rfl rfl (by kernel_rfl) Try.func9 (joined_of jf0_HeaderBack jf1 jf2 jf3_HeaderBack jf4_HeaderBack jf5_HeaderBack jf6 jf7_HeaderBack jf8 jf9_HeaderBack jf10_HeaderBack jf11_HeaderBack jf12_HeaderBack jf13_HeaderBack jf14_HeaderBack jf15_HeaderBack jf16_HeaderBack jf17_HeaderBack jf18_HeaderBack jf19_HeaderBack jf20_HeaderBack jf21_HeaderBack jf22_HeaderBack jf23_HeaderBack jf24 jf25 jf26_HeaderBack jf27_HeaderBack jf28_HeaderBack jf29_HeaderBack jf30_HeaderBack jf31_HeaderBack)
    (of_decide_eq_true (by kernel_rfl)) (by unfold Func.isWrapper; first | (rw [if_pos (by decide +kernel)]; kernel_rfl) | (rw [if_neg (by decide +kernel)]; exact ⟨rfl, rfl⟩))
    (fun os started H enc _ => lifted_HeaderBack os started H enc)
end Go.Proofs.Ytdcijmigoefnjaa
