/- CraftMakes: the law holds for every input that its statement speaks of. -/
import Derived.Test.YtdcijmigoefnjaaRows
import Derived.Test.YtdcijmigoefnjaaEvLa
import Derived.Test.YtdcijmigoefnjaaJf
import Derived.Test.YtdcijmigoefnjaaPlK6
import Derived.WalkKit
import Derived.ProofKit
import Derived.OpenShut
import Derived.ShutString
import Derived.ChangeOld
import Derived.Below
import Derived.SizedLaws
set_option linter.unusedVariables false
set_option maxRecDepth 100000
namespace Go.Proofs.Ytdcijmigoefnjaa
open Go Go.Ev Go.ChangeShapes Go.WideShapes Go.ChangeAt Go.RowKit
open Go.ChangeMaps (open_string shut_string)
theorem own_CraftMakes : ownKnob Try.prog.godebug = none := by kernel_rfl
theorem lifted_CraftMakes (os : Os) (started : os.Started) (H : Type) (enc : TypeId × Value → H) :
  ReturnsInHanded {} Try.checked os 25 .any (Rows.craftMakesSpec.pre6 enc Try.prog Try.f25 Rows.craftMakesRow.domain false) (Rows.craftMakesSpec.post enc Try.prog Try.f25 false true false false) := by
 refine returnsInHanded_of_change_sized (C := Try.checked) own_CraftMakes started (by kernel_rfl) Try.func25
  (ChangeSpec.witness6 (enc := enc) (C := Try.checked) false ⟨#[],#[.agg #[.int .u64 0,.int .u64 0,.int .u64 0,.int .u64 0,.int .u64 0,.int .u64 0,.int .u64 0,.int .u64 0,.int .u64 0,.int .u64 0,.int .u64 0,.int .u64 0,.int .u64 0,.int .u64 0,.int .u64 0,.int .u64 0,.int .u64 0,.int .u64 0,.int .u64 0,.int .u64 0,.int .u64 0,.int .u64 0,.int .u64 0,.int .u64 0,.int .u64 0,.int .u64 0,.int .u64 0,.int .u64 0,.int .u64 0,.int .u64 0,.int .u64 0,.int .u64 0,.int .u64 0,.int .u64 0,.int .u64 0,.int .u64 0,.int .u64 0,.int .u64 0,.int .u64 0,.int .u64 0,.int .u64 0,.int .u64 0,.int .u64 0,.int .u64 0,.int .u64 0,.int .u64 0,.int .u64 0,.int .u64 0]],[]⟩ 8 (by kernel_rfl) (by kernel_rfl) (by kernel_rfl) (by kernel_rfl)) ?_
 intro W base args ds gs before hval0 hW hcnd hsz0 _
 have hval : ∀ (j : Nat) t v,Try.f25.params[j]? = some t → args[j]? = some v → Value.okWide Try.prog W .any base t v := hval0
 have hW' := hW
 obtain ⟨p,q,hA0,hV,rfl,hfz,hnd⟩ := hW
 have hA : DataW.TrodAll enc Try.prog W 0 (fun _ => true) true Try.f25.params.toList args.toList ds p := hA0
 rw [Try.params25] at hA hval
 obtain ⟨v0,vs0,d0,ds0,p0,q0,hargs,rfl,rfl,h0,r0⟩ := trodAll_cons hA
 obtain ⟨rfl,rfl,rfl⟩ := trodAll_nil r0
 obtain rfl : args = #[v0] := by cases args; simp_all
 obtain ⟨rfl,rfl⟩ := trodVars_none hV
 have k0 := h0
 have lt0 : ∀ x ∈ p0,x.block < W.heap.size := by obtain ⟨m,hm⟩ := k0; exact DataW.trod_lt m _ _ _ hm
 have g0 : ∃ cs,v0 = .agg cs := by
  have := (hval 0 39 v0 rfl rfl)
  simp only [Value.okWide,Try.underlying39] at this
  obtain ⟨cs,h,_⟩ := this
  exact ⟨cs,h⟩
 obtain ⟨a0,w0,e0⟩ := open_aggA (S := AllS W) (ws := W) (d := 9) (ls := (repL 24 [.int .u64,.int .u64])) h0 (by kernel_rfl) g0
 clear hA0 hval0 hsz0
 refine (CallsA.below (cCraftMakes w0) (.cons (e0) (.nil))).mono fun e W' ⟨he,bel⟩ => ?_
 subst he
 exact ⟨_,rfl,_,_,_,[],_,[],hW',trodAll_mk1 (shut_bool Try.underlying4 _),(trodAll_cons_mk (Below.trod jf1 (by kernel_rfl) (of_decide_eq_true (by kernel_rfl)) k0 bel lt0) trodAll_mk0),rfl,bel.frame _,fun h => by cases h⟩
theorem jf0_CraftMakes : (Rows.craftMakesRow.wf (OpenSpec.ofChange Rows.craftMakesSpec)) = true := by kernel_rfl
theorem jf3_CraftMakes : (Try.f25.params.all (Try.prog.readableRec ·)) = true := by kernel_rfl
theorem jf4_CraftMakes : (namedTie Try.prog Rows.craftMakesRow.named Rows.craftMakesSpec.vars) = true := by kernel_rfl
theorem jf5_CraftMakes : ((Rows.craftMakesRow.stops == [])) = true := by kernel_rfl
theorem jf7_CraftMakes : ((Rows.craftMakesRow.knobs == [])) = true := by kernel_rfl
theorem jf9_CraftMakes : ((Rows.craftMakesRow.inPlace == Try.prog.inPlace 25)) = true := by kernel_rfl
theorem jf10_CraftMakes : ((Rows.craftMakesRow.unfollowed == Try.prog.unfollowed 25)) = true := by kernel_rfl
theorem jf11_CraftMakes : ((Rows.craftMakesRow.recurses == Try.prog.recurses 25)) = true := by kernel_rfl
theorem jf12_CraftMakes : ((Rows.craftMakesRow.named == Try.prog.varsNamed 25)) = true := by kernel_rfl
theorem jf13_CraftMakes : ((Rows.craftMakesRow.maps == (Try.f25.params.toList ++ Rows.craftMakesSpec.plain.varTypes Try.prog).any (Try.prog.mapsRec ·))) = true := by kernel_rfl
theorem jf14_CraftMakes : ((Rows.craftMakesRow.ifaces == (Try.f25.params.toList ++ Rows.craftMakesSpec.plain.varTypes Try.prog).any (Try.prog.ifacesRec ·))) = true := by kernel_rfl
theorem jf15_CraftMakes : ((Rows.craftMakesRow.mapsOut == Try.prog.mapsAmong Try.f25.resultTypes.toList)) = true := by kernel_rfl
theorem jf16_CraftMakes : ((Rows.craftMakesRow.loops == (Try.f25.params.toList ++ Rows.craftMakesSpec.plain.varTypes Try.prog).any (Try.prog.loopsFrom ·))) = true := by kernel_rfl
theorem jf17_CraftMakes : ((Rows.craftMakesRow.wideKeys == (Try.f25.params.toList ++ Rows.craftMakesSpec.plain.varTypes Try.prog ++ Try.f25.resultTypes.toList).any (Try.prog.wideKeysFrom ·))) = true := by kernel_rfl
theorem jf18_CraftMakes : (Rows.craftMakesSpec.vars.all (Try.prog.varReadable ·)) = true := by kernel_rfl
theorem jf19_CraftMakes : (Try.f25.resultTypes.all (fun t => Try.prog.readableRec t && decide (t < Try.prog.types.size))) = true := by kernel_rfl
theorem jf20_CraftMakes : ((Rows.craftMakesRow.ifacesOut == Try.f25.resultTypes.toList.any (Try.prog.ifacesRec ·))) = true := by kernel_rfl
theorem jf21_CraftMakes : ((Rows.craftMakesRow.loopsOut == Try.f25.resultTypes.toList.any (Try.prog.loopsFrom ·))) = true := by kernel_rfl
theorem jf22_CraftMakes : ((Rows.craftMakesRow.plainKeys == Try.prog.plainKeys)) = true := by kernel_rfl
theorem jf23_CraftMakes : (Rows.craftMakesRow.shortTexts.isNone) = true := by kernel_rfl
theorem jf26_CraftMakes : ((Rows.craftMakesRow.lifted == Try.prog.liftsFinal)) = true := by rw [lifts_eq]; rfl
theorem jf27_CraftMakes : ((Try.prog.make == some Rows.craftMakesRow.make)) = true := by rw [make_eq]; rfl
theorem jf28_CraftMakes : ((Rows.craftMakesRow.kinds == (if Rows.craftMakesRow.domain.isEmpty then [] else Try.f25.params.toList.map fun t => match Try.prog.underlying t with | some (.int k) => some k | _ => none))) = true := by kernel_rfl
theorem jf29_CraftMakes : ((Rows.craftMakesRow.pinned == Rows.craftMakesRow.pinnedBy)) = true := by kernel_rfl
theorem jf30_CraftMakes : ((Rows.craftMakesRow.veiled == (Try.f25.params.toList ++ Rows.craftMakesSpec.plain.varTypes Try.prog ++ Try.f25.resultTypes.toList).any (Try.prog.veiledRec ·))) = true := by kernel_rfl
theorem jf31_CraftMakes : (Rows.craftMakesRow.veiledFits Try.prog Try.f25.params.toList (Try.f25.params.toList ++ Rows.craftMakesSpec.plain.varTypes Try.prog ++ Try.f25.resultTypes.toList)) = true := by kernel_rfl
theorem craftMakes_holds : Rows.CraftMakesSaid :=
 OpenClaim.holds_of_wide 25 Try.f25 rfl rfl rfl rfl rfl rfl rfl ⟨rfl,rfl,rfl,rfl,rfl⟩ rfl rfl rfl rfl rfl (by kernel_rfl) Try.func25 (joined_of jf0_CraftMakes jf1 jf2 jf3_CraftMakes jf4_CraftMakes jf5_CraftMakes jf6 jf7_CraftMakes jf8 jf9_CraftMakes jf10_CraftMakes jf11_CraftMakes jf12_CraftMakes jf13_CraftMakes jf14_CraftMakes jf15_CraftMakes jf16_CraftMakes jf17_CraftMakes jf18_CraftMakes jf19_CraftMakes jf20_CraftMakes jf21_CraftMakes jf22_CraftMakes jf23_CraftMakes jf24 jf25 jf26_CraftMakes jf27_CraftMakes jf28_CraftMakes jf29_CraftMakes jf30_CraftMakes jf31_CraftMakes)
  (of_decide_eq_true (by kernel_rfl)) (by unfold Func.isWrapper; first | (rw [if_pos (by decide +kernel)]; kernel_rfl) | (rw [if_neg (by decide +kernel)]; exact ⟨rfl,rfl⟩))
  (fun os started H enc _ => lifted_CraftMakes os started H enc)
end Go.Proofs.Ytdcijmigoefnjaa
