/- The row of MatchCubes, out of its call. -/
import Derived.Test.YtdcijmigoefnjaaRows
import Derived.Test.YtdcijmigoefnjaaEvLa
import Derived.Test.YtdcijmigoefnjaaJf
import Derived.Test.YtdcijmigoefnjaaL11e
import Derived.WalkKit
import Derived.ProofKit
import Derived.OpenShut
import Derived.ShutString
import Derived.ChangeOld
import Derived.Below
import Derived.SizedLaws
set_option linter.unusedVariables false
set_option maxRecDepth 100000
namespace Go.Proofs.Ytdcijmigoefnjaa
open Go Go.Ev Go.ChangeShapes Go.WideShapes Go.ChangeAt Go.RowKit
open Go.ChangeMaps (open_string shut_string)
theorem own_MatchCubes : ownKnob Try.prog.godebug = none := by kernel_rfl
set_option maxRecDepth 100000 in
theorem lifted_MatchCubes (os : Os) (started : os.Started) (H : Type) (enc : TypeId × Value → H) :
    ReturnsInHanded {} Try.checked os 18 .any (Rows.matchCubesSpec.pre6 enc Try.prog Try.f18 Rows.matchCubesRow.domain false) (Rows.matchCubesSpec.post enc Try.prog Try.f18 false true false false) := by
  refine returnsInHanded_of_change_sized (C := Try.checked) own_MatchCubes started (by kernel_rfl) Try.func18
    (ChangeSpec.witness6 (enc := enc) (C := Try.checked) false ⟨#[], #[.slice none 0 0, .int .i64 0], []⟩ 8 (by kernel_rfl) (by kernel_rfl) (by kernel_rfl) (by kernel_rfl)) ?_
  intro W base args ds gs before hval0 hW hcnd hsz0 _
  have hval : ∀ (j : Nat) t v, Try.f18.params[j]? = some t → args[j]? = some v → Value.okWide Try.prog W .any base t v := hval0
  have hW' := hW
  obtain ⟨p, q, hA0, hV, rfl, hfz, hnd⟩ := hW
  have hA : DataW.TrodAll enc Try.prog W 0 (fun _ => true) true Try.f18.params.toList args.toList ds p := hA0
  rw [Try.params18] at hA hval
  obtain ⟨v0, vs0, d0, ds0, p0, q0, hargs, rfl, rfl, h0, r0⟩ := trodAll_cons hA
  obtain ⟨v1, vs1, d1, ds1, p1, q1, rfl, rfl, rfl, h1, r1⟩ := trodAll_cons r0
  obtain ⟨rfl, rfl, rfl⟩ := trodAll_nil r1
  obtain rfl : args = #[v0, v1] := by cases args; simp_all
  obtain ⟨rfl, rfl⟩ := trodVars_none hV
  have k0 := h0
  have lt0 : ∀ x ∈ p0, x.block < W.heap.size := by obtain ⟨m, hm⟩ := k0; exact DataW.trod_lt m _ _ _ hm
  obtain ⟨a0, w0, z0, e0⟩ := open_sliceA (d := 9) (ls := [.int .i64, .bool, .int .u64, .int .u64, .int .u64, .int .u64]) Try.underlying84 (by kernel_rfl) (by kernel_rfl) (by decide) h0 (hval 0 84 v0 rfl rfl)
  obtain ⟨a1, rfl, rfl, rfl, w1⟩ := open_int Try.underlying3 (hval 1 3 v1 rfl rfl) h1
  clear hA0 hval0 hsz0
  refine (CallsA.below (cMatchCubes w0 z0 (wf_int w1)) (.cons (e0) (.cons (.int _ _) (.nil)))).mono fun e W' ⟨he, bel⟩ => ?_
  subst he
  exact ⟨_, rfl, _, _, _, [], _, [], hW', trodAll_mk1 (shut_bool Try.underlying4 _), (trodAll_cons_mk (Below.trod jf1 (by kernel_rfl) (of_decide_eq_true (by kernel_rfl)) k0 bel lt0) (trodAll_cons_mk (shut_int Try.underlying3 w1) trodAll_mk0)), rfl, bel.frame _, fun h => by cases h⟩
set_option maxRecDepth 100000 in
theorem jf0_MatchCubes : (Rows.matchCubesRow.wf (OpenSpec.ofChange Rows.matchCubesSpec)) = true := by kernel_rfl
set_option maxRecDepth 100000 in
theorem jf3_MatchCubes : (Try.f18.params.all (Try.prog.readableRec ·)) = true := by kernel_rfl
set_option maxRecDepth 100000 in
theorem jf4_MatchCubes : (namedTie Try.prog Rows.matchCubesRow.named Rows.matchCubesSpec.vars) = true := by kernel_rfl
set_option maxRecDepth 100000 in
theorem jf5_MatchCubes : ((Rows.matchCubesRow.stops == [])) = true := by kernel_rfl
set_option maxRecDepth 100000 in
theorem jf7_MatchCubes : ((Rows.matchCubesRow.knobs == [])) = true := by kernel_rfl
set_option maxRecDepth 100000 in
theorem jf9_MatchCubes : ((Rows.matchCubesRow.inPlace == Try.prog.inPlace 18)) = true := by kernel_rfl
set_option maxRecDepth 100000 in
theorem jf10_MatchCubes : ((Rows.matchCubesRow.unfollowed == Try.prog.unfollowed 18)) = true := by kernel_rfl
set_option maxRecDepth 100000 in
theorem jf11_MatchCubes : ((Rows.matchCubesRow.recurses == Try.prog.recurses 18)) = true := by kernel_rfl
set_option maxRecDepth 100000 in
theorem jf12_MatchCubes : ((Rows.matchCubesRow.named == Try.prog.varsNamed 18)) = true := by kernel_rfl
set_option maxRecDepth 100000 in
theorem jf13_MatchCubes : ((Rows.matchCubesRow.maps == (Try.f18.params.toList ++ Rows.matchCubesSpec.plain.varTypes Try.prog).any (Try.prog.mapsRec ·))) = true := by kernel_rfl
set_option maxRecDepth 100000 in
theorem jf14_MatchCubes : ((Rows.matchCubesRow.ifaces == (Try.f18.params.toList ++ Rows.matchCubesSpec.plain.varTypes Try.prog).any (Try.prog.ifacesRec ·))) = true := by kernel_rfl
set_option maxRecDepth 100000 in
theorem jf15_MatchCubes : ((Rows.matchCubesRow.mapsOut == Try.prog.mapsAmong Try.f18.resultTypes.toList)) = true := by kernel_rfl
set_option maxRecDepth 100000 in
theorem jf16_MatchCubes : ((Rows.matchCubesRow.loops == (Try.f18.params.toList ++ Rows.matchCubesSpec.plain.varTypes Try.prog).any (Try.prog.loopsFrom ·))) = true := by kernel_rfl
set_option maxRecDepth 100000 in
theorem jf17_MatchCubes : ((Rows.matchCubesRow.wideKeys == (Try.f18.params.toList ++ Rows.matchCubesSpec.plain.varTypes Try.prog ++ Try.f18.resultTypes.toList).any (Try.prog.wideKeysFrom ·))) = true := by kernel_rfl
set_option maxRecDepth 100000 in
theorem jf18_MatchCubes : (Rows.matchCubesSpec.vars.all (Try.prog.varReadable ·)) = true := by kernel_rfl
set_option maxRecDepth 100000 in
theorem jf19_MatchCubes : (Try.f18.resultTypes.all (fun t => Try.prog.readableRec t && decide (t < Try.prog.types.size))) = true := by kernel_rfl
set_option maxRecDepth 100000 in
theorem jf20_MatchCubes : ((Rows.matchCubesRow.ifacesOut == Try.f18.resultTypes.toList.any (Try.prog.ifacesRec ·))) = true := by kernel_rfl
set_option maxRecDepth 100000 in
theorem jf21_MatchCubes : ((Rows.matchCubesRow.loopsOut == Try.f18.resultTypes.toList.any (Try.prog.loopsFrom ·))) = true := by kernel_rfl
set_option maxRecDepth 100000 in
theorem jf22_MatchCubes : ((Rows.matchCubesRow.plainKeys == Try.prog.plainKeys)) = true := by kernel_rfl
set_option maxRecDepth 100000 in
theorem jf23_MatchCubes : (Rows.matchCubesRow.shortTexts.isNone) = true := by kernel_rfl
set_option maxRecDepth 100000 in
theorem jf26_MatchCubes : ((Rows.matchCubesRow.lifted == Try.prog.liftsFinal)) = true := by rw [lifts_eq]; rfl
set_option maxRecDepth 100000 in
theorem jf27_MatchCubes : ((Try.prog.make == some Rows.matchCubesRow.make)) = true := by rw [make_eq]; rfl
set_option maxRecDepth 100000 in
theorem jf28_MatchCubes : ((Rows.matchCubesRow.kinds == (if Rows.matchCubesRow.domain.isEmpty then [] else Try.f18.params.toList.map fun t => match Try.prog.underlying t with | some (.int k) => some k | _ => none))) = true := by kernel_rfl
set_option maxRecDepth 100000 in
theorem jf29_MatchCubes : ((Rows.matchCubesRow.pinned == Rows.matchCubesRow.pinnedBy)) = true := by kernel_rfl
set_option maxRecDepth 100000 in
theorem jf30_MatchCubes : ((Rows.matchCubesRow.veiled == (Try.f18.params.toList ++ Rows.matchCubesSpec.plain.varTypes Try.prog ++ Try.f18.resultTypes.toList).any (Try.prog.veiledRec ·))) = true := by kernel_rfl
set_option maxRecDepth 100000 in
theorem jf31_MatchCubes : (Rows.matchCubesRow.veiledFits Try.prog Try.f18.params.toList (Try.f18.params.toList ++ Rows.matchCubesSpec.plain.varTypes Try.prog ++ Try.f18.resultTypes.toList)) = true := by kernel_rfl
/-- MatchCubes holds. -/
theorem matchCubes_holds : Rows.MatchCubesSaid :=
  OpenClaim.holds_of_wide 18 Try.f18 rfl rfl rfl rfl rfl rfl rfl ⟨rfl, rfl, rfl, rfl, rfl⟩ rfl rfl rfl rfl rfl (by kernel_rfl) Try.func18 (joined_of jf0_MatchCubes jf1 jf2 jf3_MatchCubes jf4_MatchCubes jf5_MatchCubes jf6 jf7_MatchCubes jf8 jf9_MatchCubes jf10_MatchCubes jf11_MatchCubes jf12_MatchCubes jf13_MatchCubes jf14_MatchCubes jf15_MatchCubes jf16_MatchCubes jf17_MatchCubes jf18_MatchCubes jf19_MatchCubes jf20_MatchCubes jf21_MatchCubes jf22_MatchCubes jf23_MatchCubes jf24 jf25 jf26_MatchCubes jf27_MatchCubes jf28_MatchCubes jf29_MatchCubes jf30_MatchCubes jf31_MatchCubes)
    (of_decide_eq_true (by kernel_rfl)) (by unfold Func.isWrapper; first | (rw [if_pos (by decide +kernel)]; kernel_rfl) | (rw [if_neg (by decide +kernel)]; exact ⟨rfl, rfl⟩))
    (fun os started H enc _ => lifted_MatchCubes os started H enc)
end Go.Proofs.Ytdcijmigoefnjaa
