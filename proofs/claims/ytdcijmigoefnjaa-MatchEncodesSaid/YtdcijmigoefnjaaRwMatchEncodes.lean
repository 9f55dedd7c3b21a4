import Derived.Test.YtdcijmigoefnjaaRows
import Derived.Test.YtdcijmigoefnjaaEvLa
import Derived.Test.YtdcijmigoefnjaaJf
import Derived.Test.YtdcijmigoefnjaaL11h
import Derived.WalkKit
import Derived.ProofKit
import Derived.OpenShut
import Derived.ShutString
import Derived.ChangeOld
import Derived.Below
import Derived.SizedLaws
/- The row of MatchEncodes, out of its call. -/
set_option linter.unusedVariables false
set_option maxRecDepth 100000
namespace Go.Proofs.Ytdcijmigoefnjaa
open Go Go.Ev Go.ChangeShapes Go.WideShapes Go.ChangeAt Go.RowKit
open Go.ChangeMaps (open_string shut_string)
theorem own_MatchEncodes : ownKnob Try.prog.godebug = none := by kernel_rfl
set_option maxRecDepth 100000 in
theorem lifted_MatchEncodes (os : Os) (started : os.Started) (H : Type) (enc : TypeId × Value → H) :
    ReturnsInHanded {} Try.checked os 20 .any (Rows.matchEncodesSpec.pre6 enc Try.prog Try.f20 Rows.matchEncodesRow.domain false) (Rows.matchEncodesSpec.post enc Try.prog Try.f20 false true false false) := by
  refine returnsInHanded_of_change_sized (C := Try.checked) own_MatchEncodes started (by kernel_rfl) Try.func20
    (ChangeSpec.witness6 (enc := enc) (C := Try.checked) false ⟨#[], #[.slice none 0 0, .slice none 0 0], []⟩ 8 (by kernel_rfl) (by kernel_rfl) (by kernel_rfl) (by kernel_rfl)) ?_
  intro W base args ds gs before hval0 hW hcnd hsz0 _
  have hval : ∀ (j : Nat) t v, Try.f20.params[j]? = some t → args[j]? = some v → Value.okWide Try.prog W .any base t v := hval0
  have hW' := hW
  obtain ⟨p, q, hA0, hV, rfl, hfz, hnd⟩ := hW
  have hA : DataW.TrodAll enc Try.prog W 0 (fun _ => true) true Try.f20.params.toList args.toList ds p := hA0
  rw [Try.params20] at hA hval
  obtain ⟨v0, vs0, d0, ds0, p0, q0, hargs, rfl, rfl, h0, r0⟩ := trodAll_cons hA
  obtain ⟨v1, vs1, d1, ds1, p1, q1, rfl, rfl, rfl, h1, r1⟩ := trodAll_cons r0
  obtain ⟨rfl, rfl, rfl⟩ := trodAll_nil r1
  obtain rfl : args = #[v0, v1] := by cases args; simp_all
  obtain ⟨rfl, rfl⟩ := trodVars_none hV
  have k0 := h0
  have lt0 : ∀ x ∈ p0, x.block < W.heap.size := by obtain ⟨m, hm⟩ := k0; exact DataW.trod_lt m _ _ _ hm
  obtain ⟨a0, w0, z0, e0⟩ := open_sliceA (d := 9) (ls := [.int .i64, .bool, .int .u64, .int .u64, .int .u64, .int .u64]) Try.underlying84 (by kernel_rfl) (by kernel_rfl) (by decide) h0 (hval 0 84 v0 rfl rfl)
  have k1 := h1
  have lt1 : ∀ x ∈ p1, x.block < W.heap.size := by obtain ⟨m, hm⟩ := k1; exact DataW.trod_lt m _ _ _ hm
  obtain ⟨a1, w1, z1, e1⟩ := open_sliceA (d := 9) (ls := [.int .i64, .bool, .int .u64, .int .u64, .int .u64, .int .u64]) Try.underlying84 (by kernel_rfl) (by kernel_rfl) (by decide) h1 (hval 1 84 v1 rfl rfl)
  clear hA0 hval0 hsz0
  refine (CallsA.below (cMatchEncodes w0 z0 w1 z1) (.cons (e0) (.cons (e1) (.nil)))).mono fun e W' ⟨he, bel⟩ => ?_
  subst he
  exact ⟨_, rfl, _, _, _, [], _, [], hW', trodAll_mk1 (shut_bool Try.underlying4 _), (trodAll_cons_mk (Below.trod jf1 (by kernel_rfl) (of_decide_eq_true (by kernel_rfl)) k0 bel lt0) (trodAll_cons_mk (Below.trod jf1 (by kernel_rfl) (of_decide_eq_true (by kernel_rfl)) k1 bel lt1) trodAll_mk0)), rfl, bel.frame _, fun h => by cases h⟩
set_option maxRecDepth 100000 in
theorem jf0_MatchEncodes : (Rows.matchEncodesRow.wf (OpenSpec.ofChange Rows.matchEncodesSpec)) = true := by kernel_rfl
set_option maxRecDepth 100000 in
theorem jf3_MatchEncodes : (Try.f20.params.all (Try.prog.readableRec ·)) = true := by kernel_rfl
set_option maxRecDepth 100000 in
theorem jf4_MatchEncodes : (namedTie Try.prog Rows.matchEncodesRow.named Rows.matchEncodesSpec.vars) = true := by kernel_rfl
set_option maxRecDepth 100000 in
theorem jf5_MatchEncodes : ((Rows.matchEncodesRow.stops == [])) = true := by kernel_rfl
set_option maxRecDepth 100000 in
theorem jf7_MatchEncodes : ((Rows.matchEncodesRow.knobs == [])) = true := by kernel_rfl
set_option maxRecDepth 100000 in
theorem jf9_MatchEncodes : ((Rows.matchEncodesRow.inPlace == Try.prog.inPlace 20)) = true := by kernel_rfl
set_option maxRecDepth 100000 in
theorem jf10_MatchEncodes : ((Rows.matchEncodesRow.unfollowed == Try.prog.unfollowed 20)) = true := by kernel_rfl
set_option maxRecDepth 100000 in
theorem jf11_MatchEncodes : ((Rows.matchEncodesRow.recurses == Try.prog.recurses 20)) = true := by kernel_rfl
set_option maxRecDepth 100000 in
theorem jf12_MatchEncodes : ((Rows.matchEncodesRow.named == Try.prog.varsNamed 20)) = true := by kernel_rfl
set_option maxRecDepth 100000 in
theorem jf13_MatchEncodes : ((Rows.matchEncodesRow.maps == (Try.f20.params.toList ++ Rows.matchEncodesSpec.plain.varTypes Try.prog).any (Try.prog.mapsRec ·))) = true := by kernel_rfl
set_option maxRecDepth 100000 in
theorem jf14_MatchEncodes : ((Rows.matchEncodesRow.ifaces == (Try.f20.params.toList ++ Rows.matchEncodesSpec.plain.varTypes Try.prog).any (Try.prog.ifacesRec ·))) = true := by kernel_rfl
set_option maxRecDepth 100000 in
theorem jf15_MatchEncodes : ((Rows.matchEncodesRow.mapsOut == Try.prog.mapsAmong Try.f20.resultTypes.toList)) = true := by kernel_rfl
set_option maxRecDepth 100000 in
theorem jf16_MatchEncodes : ((Rows.matchEncodesRow.loops == (Try.f20.params.toList ++ Rows.matchEncodesSpec.plain.varTypes Try.prog).any (Try.prog.loopsFrom ·))) = true := by kernel_rfl
set_option maxRecDepth 100000 in
theorem jf17_MatchEncodes : ((Rows.matchEncodesRow.wideKeys == (Try.f20.params.toList ++ Rows.matchEncodesSpec.plain.varTypes Try.prog ++ Try.f20.resultTypes.toList).any (Try.prog.wideKeysFrom ·))) = true := by kernel_rfl
set_option maxRecDepth 100000 in
theorem jf18_MatchEncodes : (Rows.matchEncodesSpec.vars.all (Try.prog.varReadable ·)) = true := by kernel_rfl
set_option maxRecDepth 100000 in
theorem jf19_MatchEncodes : (Try.f20.resultTypes.all (fun t => Try.prog.readableRec t && decide (t < Try.prog.types.size))) = true := by kernel_rfl
set_option maxRecDepth 100000 in
theorem jf20_MatchEncodes : ((Rows.matchEncodesRow.ifacesOut == Try.f20.resultTypes.toList.any (Try.prog.ifacesRec ·))) = true := by kernel_rfl
set_option maxRecDepth 100000 in
theorem jf21_MatchEncodes : ((Rows.matchEncodesRow.loopsOut == Try.f20.resultTypes.toList.any (Try.prog.loopsFrom ·))) = true := by kernel_rfl
set_option maxRecDepth 100000 in
theorem jf22_MatchEncodes : ((Rows.matchEncodesRow.plainKeys == Try.prog.plainKeys)) = true := by kernel_rfl
set_option maxRecDepth 100000 in
theorem jf23_MatchEncodes : (Rows.matchEncodesRow.shortTexts.isNone) = true := by kernel_rfl
set_option maxRecDepth 100000 in
theorem jf26_MatchEncodes : ((Rows.matchEncodesRow.lifted == Try.prog.liftsFinal)) = true := by rw [lifts_eq]; rfl
set_option maxRecDepth 100000 in
theorem jf27_MatchEncodes : ((Try.prog.make == some Rows.matchEncodesRow.make)) = true := by rw [make_eq]; rfl
set_option maxRecDepth 100000 in
theorem jf28_MatchEncodes : ((Rows.matchEncodesRow.kinds == (if Rows.matchEncodesRow.domain.isEmpty then [] else Try.f20.params.toList.map fun t => match Try.prog.underlying t with | some (.int k) => some k | _ => none))) = true := by kernel_rfl
set_option maxRecDepth 100000 in
theorem jf29_MatchEncodes : ((Rows.matchEncodesRow.pinned == Rows.matchEncodesRow.pinnedBy)) = true := by kernel_rfl
set_option maxRecDepth 100000 in
theorem jf30_MatchEncodes : ((Rows.matchEncodesRow.veiled == (Try.f20.params.toList ++ Rows.matchEncodesSpec.plain.varTypes Try.prog ++ Try.f20.resultTypes.toList).any (Try.prog.veiledRec ·))) = true := by kernel_rfl
set_option maxRecDepth 100000 in
theorem jf31_MatchEncodes : (Rows.matchEncodesRow.veiledFits Try.prog Try.f20.params.toList (Try.f20.params.toList ++ Rows.matchEncodesSpec.plain.varTypes Try.prog ++ Try.f20.resultTypes.toList)) = true := by kernel_rfl
/-- MatchEncodes holds. -/
theorem matchEncodes_holds : Rows.MatchEncodesSaid :=
  OpenClaim.holds_of_wide 20 Try.f20 rfl rfl rfl rfl rfl rfl rfl ⟨rfl, rfl, rfl, rfl, rfl⟩ rfl rfl rfl rfl rfl (by kernel_rfl) Try.func20 (joined_of jf0_MatchEncodes jf1 jf2 jf3_MatchEncodes jf4_MatchEncodes jf5_MatchEncodes jf6 jf7_MatchEncodes jf8 jf9_MatchEncodes jf10_MatchEncodes jf11_MatchEncodes jf12_MatchEncodes jf13_MatchEncodes jf14_MatchEncodes jf15_MatchEncodes jf16_MatchEncodes jf17_MatchEncodes jf18_MatchEncodes jf19_MatchEncodes jf20_MatchEncodes jf21_MatchEncodes jf22_MatchEncodes jf23_MatchEncodes jf24 jf25 jf26_MatchEncodes jf27_MatchEncodes jf28_MatchEncodes jf29_MatchEncodes jf30_MatchEncodes jf31_MatchEncodes)
    (of_decide_eq_true (by kernel_rfl)) (by unfold Func.isWrapper; first | (rw [if_pos (by decide +kernel)]; kernel_rfl) | (rw [if_neg (by decide +kernel)]; exact ⟨rfl, rfl⟩))
    (fun os started H enc _ => lifted_MatchEncodes os started H enc)
end Go.Proofs.Ytdcijmigoefnjaa
