import Derived.Test.YtdcijmigoefnjaaRows
import Derived.Test.YtdcijmigoefnjaaEvLa
import Derived.Test.YtdcijmigoefnjaaJf
import Derived.Test.YtdcijmigoefnjaaPlK7
import Derived.WalkKit
import Derived.ProofKit
import Derived.OpenShut
import Derived.ShutString
import Derived.ChangeOld
import Derived.Below
import Derived.SizedLaws
/- The row of CraftAll, out of its call. -/
set_option linter.unusedVariables false
set_option maxRecDepth 100000
namespace Go.Proofs.Ytdcijmigoefnjaa
open Go Go.Ev Go.ChangeShapes Go.WideShapes Go.ChangeAt Go.RowKit
open Go.ChangeMaps (open_string shut_string)
theorem own_CraftAll : ownKnob Try.prog.godebug = none := by kernel_rfl
set_option maxRecDepth 100000 in
theorem lifted_CraftAll (os : Os) (started : os.Started) (H : Type) (enc : TypeId × Value → H) :
    ReturnsInHanded {} Try.checked os 24 .any (Rows.craftAllSpec.pre6 enc Try.prog Try.f24 Rows.craftAllRow.domain false) (Rows.craftAllSpec.post enc Try.prog Try.f24 false true false false) := by
  refine returnsInHanded_of_change_sized (C := Try.checked) own_CraftAll started (by kernel_rfl) Try.func24
    (ChangeSpec.witness6 (enc := enc) (C := Try.checked) false ⟨#[], #[.slice none 0 0, .int .i64 0], []⟩ 8 (by kernel_rfl) (by kernel_rfl) (by kernel_rfl) (by kernel_rfl)) ?_
  intro W base args ds gs before hval0 hW hcnd hsz0 _
  have hval : ∀ (j : Nat) t v, Try.f24.params[j]? = some t → args[j]? = some v → Value.okWide Try.prog W .any base t v := hval0
  have hW' := hW
  obtain ⟨p, q, hA0, hV, rfl, hfz, hnd⟩ := hW
  have hA : DataW.TrodAll enc Try.prog W 0 (fun _ => true) true Try.f24.params.toList args.toList ds p := hA0
  rw [Try.params24] at hA hval
  obtain ⟨v0, vs0, d0, ds0, p0, q0, hargs, rfl, rfl, h0, r0⟩ := trodAll_cons hA
  obtain ⟨v1, vs1, d1, ds1, p1, q1, rfl, rfl, rfl, h1, r1⟩ := trodAll_cons r0
  obtain ⟨rfl, rfl, rfl⟩ := trodAll_nil r1
  obtain rfl : args = #[v0, v1] := by cases args; simp_all
  obtain ⟨rfl, rfl⟩ := trodVars_none hV
  have k0 := h0
  have lt0 : ∀ x ∈ p0, x.block < W.heap.size := by obtain ⟨m, hm⟩ := k0; exact DataW.trod_lt m _ _ _ hm
  obtain ⟨a0, w0, z0, e0⟩ := open_sliceA (d := 9) (ls := [.int .u8]) Try.underlying52 (by kernel_rfl) (by kernel_rfl) (by decide) h0 (hval 0 52 v0 rfl rfl)
  obtain ⟨a1, rfl, rfl, rfl, w1⟩ := open_int Try.underlying3 (hval 1 3 v1 rfl rfl) h1
  clear hA0 hval0 hsz0
  refine (CallsA.below (cCraftAll w0 z0 (wf_int w1)) (.cons (e0) (.cons (.int _ _) (.nil)))).mono fun e W' ⟨he, bel⟩ => ?_
  subst he
  exact ⟨_, rfl, _, _, _, [], _, [], hW', trodAll_mk1 (shut_bool Try.underlying4 _), (trodAll_cons_mk (Below.trod jf1 (by kernel_rfl) (of_decide_eq_true (by kernel_rfl)) k0 bel lt0) (trodAll_cons_mk (shut_int Try.underlying3 w1) trodAll_mk0)), rfl, bel.frame _, fun h => by cases h⟩
set_option maxRecDepth 100000 in
theorem jf0_CraftAll : (Rows.craftAllRow.wf (OpenSpec.ofChange Rows.craftAllSpec)) = true := by kernel_rfl
set_option maxRecDepth 100000 in
theorem jf3_CraftAll : (Try.f24.params.all (Try.prog.readableRec ·)) = true := by kernel_rfl
set_option maxRecDepth 100000 in
theorem jf4_CraftAll : (namedTie Try.prog Rows.craftAllRow.named Rows.craftAllSpec.vars) = true := by kernel_rfl
set_option maxRecDepth 100000 in
theorem jf5_CraftAll : ((Rows.craftAllRow.stops == [])) = true := by kernel_rfl
set_option maxRecDepth 100000 in
theorem jf7_CraftAll : ((Rows.craftAllRow.knobs == [])) = true := by kernel_rfl
set_option maxRecDepth 100000 in
theorem jf9_CraftAll : ((Rows.craftAllRow.inPlace == Try.prog.inPlace 24)) = true := by kernel_rfl
set_option maxRecDepth 100000 in
theorem jf10_CraftAll : ((Rows.craftAllRow.unfollowed == Try.prog.unfollowed 24)) = true := by kernel_rfl
set_option maxRecDepth 100000 in
theorem jf11_CraftAll : ((Rows.craftAllRow.recurses == Try.prog.recurses 24)) = true := by kernel_rfl
set_option maxRecDepth 100000 in
theorem jf12_CraftAll : ((Rows.craftAllRow.named == Try.prog.varsNamed 24)) = true := by kernel_rfl
set_option maxRecDepth 100000 in
theorem jf13_CraftAll : ((Rows.craftAllRow.maps == (Try.f24.params.toList ++ Rows.craftAllSpec.plain.varTypes Try.prog).any (Try.prog.mapsRec ·))) = true := by kernel_rfl
set_option maxRecDepth 100000 in
theorem jf14_CraftAll : ((Rows.craftAllRow.ifaces == (Try.f24.params.toList ++ Rows.craftAllSpec.plain.varTypes Try.prog).any (Try.prog.ifacesRec ·))) = true := by kernel_rfl
set_option maxRecDepth 100000 in
theorem jf15_CraftAll : ((Rows.craftAllRow.mapsOut == Try.prog.mapsAmong Try.f24.resultTypes.toList)) = true := by kernel_rfl
set_option maxRecDepth 100000 in
theorem jf16_CraftAll : ((Rows.craftAllRow.loops == (Try.f24.params.toList ++ Rows.craftAllSpec.plain.varTypes Try.prog).any (Try.prog.loopsFrom ·))) = true := by kernel_rfl
set_option maxRecDepth 100000 in
theorem jf17_CraftAll : ((Rows.craftAllRow.wideKeys == (Try.f24.params.toList ++ Rows.craftAllSpec.plain.varTypes Try.prog ++ Try.f24.resultTypes.toList).any (Try.prog.wideKeysFrom ·))) = true := by kernel_rfl
set_option maxRecDepth 100000 in
theorem jf18_CraftAll : (Rows.craftAllSpec.vars.all (Try.prog.varReadable ·)) = true := by kernel_rfl
set_option maxRecDepth 100000 in
theorem jf19_CraftAll : (Try.f24.resultTypes.all (fun t => Try.prog.readableRec t && decide (t < Try.prog.types.size))) = true := by kernel_rfl
set_option maxRecDepth 100000 in
theorem jf20_CraftAll : ((Rows.craftAllRow.ifacesOut == Try.f24.resultTypes.toList.any (Try.prog.ifacesRec ·))) = true := by kernel_rfl
set_option maxRecDepth 100000 in
theorem jf21_CraftAll : ((Rows.craftAllRow.loopsOut == Try.f24.resultTypes.toList.any (Try.prog.loopsFrom ·))) = true := by kernel_rfl
set_option maxRecDepth 100000 in
theorem jf22_CraftAll : ((Rows.craftAllRow.plainKeys == Try.prog.plainKeys)) = true := by kernel_rfl
set_option maxRecDepth 100000 in
theorem jf23_CraftAll : (Rows.craftAllRow.shortTexts.isNone) = true := by kernel_rfl
set_option maxRecDepth 100000 in
theorem jf26_CraftAll : ((Rows.craftAllRow.lifted == Try.prog.liftsFinal)) = true := by rw [lifts_eq]; rfl
set_option maxRecDepth 100000 in
theorem jf27_CraftAll : ((Try.prog.make == some Rows.craftAllRow.make)) = true := by rw [make_eq]; rfl
set_option maxRecDepth 100000 in
theorem jf28_CraftAll : ((Rows.craftAllRow.kinds == (if Rows.craftAllRow.domain.isEmpty then [] else Try.f24.params.toList.map fun t => match Try.prog.underlying t with | some (.int k) => some k | _ => none))) = true := by kernel_rfl
set_option maxRecDepth 100000 in
theorem jf29_CraftAll : ((Rows.craftAllRow.pinned == Rows.craftAllRow.pinnedBy)) = true := by kernel_rfl
set_option maxRecDepth 100000 in
theorem jf30_CraftAll : ((Rows.craftAllRow.veiled == (Try.f24.params.toList ++ Rows.craftAllSpec.plain.varTypes Try.prog ++ Try.f24.resultTypes.toList).any (Try.prog.veiledRec ·))) = true := by kernel_rfl
set_option maxRecDepth 100000 in
theorem jf31_CraftAll : (Rows.craftAllRow.veiledFits Try.prog Try.f24.params.toList (Try.f24.params.toList ++ Rows.craftAllSpec.plain.varTypes Try.prog ++ Try.f24.resultTypes.toList)) = true := by kernel_rfl
/-- CraftAll holds. -/
theorem craftAll_holds : Rows.CraftAllSaid :=
  OpenClaim.holds_of_wide 24 Try.f24 rfl rfl rfl rfl rfl rfl rfl ⟨rfl, rfl, rfl, rfl, rfl⟩ rfl rfl rfl rfl rfl (by kernel_rfl) Try.func24 (joined_of jf0_CraftAll jf1 jf2 jf3_CraftAll jf4_CraftAll jf5_CraftAll jf6 jf7_CraftAll jf8 jf9_CraftAll jf10_CraftAll jf11_CraftAll jf12_CraftAll jf13_CraftAll jf14_CraftAll jf15_CraftAll jf16_CraftAll jf17_CraftAll jf18_CraftAll jf19_CraftAll jf20_CraftAll jf21_CraftAll jf22_CraftAll jf23_CraftAll jf24 jf25 jf26_CraftAll jf27_CraftAll jf28_CraftAll jf29_CraftAll jf30_CraftAll jf31_CraftAll)
    (of_decide_eq_true (by kernel_rfl)) (by unfold Func.isWrapper; first | (rw [if_pos (by decide +kernel)]; kernel_rfl) | (rw [if_neg (by decide +kernel)]; exact ⟨rfl, rfl⟩))
    (fun os started H enc _ => lifted_CraftAll os started H enc)
end Go.Proofs.Ytdcijmigoefnjaa
