/- The row of PacketFits, out of its call. -/
import Derived.Test.YtdcijmigoefnjaaRows
import Derived.Test.YtdcijmigoefnjaaEvLa
import Derived.Test.YtdcijmigoefnjaaJf
import Derived.Test.YtdcijmigoefnjaaL45h
import Derived.WalkKit
import Derived.ProofKit
import Derived.OpenShut
import Derived.ShutString
import Derived.ChangeOld
import Derived.Below
import Derived.SizedLaws
set_option linter.unusedVariables false
set_option maxRecDepth 100000
namespace Go.Proofs.Ytdcijmigoefnjaa
open Go Go.Ev Go.ChangeShapes Go.WideShapes Go.ChangeAt Go.RowKit
open Go.ChangeMaps (open_string shut_string)
theorem own_PacketFits : ownKnob Try.prog.godebug = none := by kernel_rfl
set_option maxRecDepth 100000 in
theorem lifted_PacketFits (os : Os) (started : os.Started) (H : Type) (enc : TypeId × Value → H) :
    ReturnsInHanded {} Try.checked os 17 .any (Rows.packetFitsSpec.pre6 enc Try.prog Try.f17 Rows.packetFitsRow.domain false) (Rows.packetFitsSpec.post enc Try.prog Try.f17 false true false false) := by
  refine returnsInHanded_of_change_sized (C := Try.checked) own_PacketFits started (by kernel_rfl) Try.func17
    (ChangeSpec.witness6 (enc := enc) (C := Try.checked) false ⟨#[], #[.slice none 0 0, .int .i64 0], []⟩ 8 (by kernel_rfl) (by kernel_rfl) (by kernel_rfl) (by kernel_rfl)) ?_
  intro W base args ds gs before hval0 hW hcnd hsz0 _
  have hval : ∀ (j : Nat) t v, Try.f17.params[j]? = some t → args[j]? = some v → Value.okWide Try.prog W .any base t v := hval0
  have hW' := hW
  obtain ⟨p, q, hA0, hV, rfl, hfz, hnd⟩ := hW
  have hA : DataW.TrodAll enc Try.prog W 0 (fun _ => true) true Try.f17.params.toList args.toList ds p := hA0
  rw [Try.params17] at hA hval
  obtain ⟨v0, vs0, d0, ds0, p0, q0, hargs, rfl, rfl, h0, r0⟩ := trodAll_cons hA
  obtain ⟨v1, vs1, d1, ds1, p1, q1, rfl, rfl, rfl, h1, r1⟩ := trodAll_cons r0
  obtain ⟨rfl, rfl, rfl⟩ := trodAll_nil r1
  obtain rfl : args = #[v0, v1] := by cases args; simp_all
  obtain ⟨rfl, rfl⟩ := trodVars_none hV
  have k0 := h0
  have lt0 : ∀ x ∈ p0, x.block < W.heap.size := by obtain ⟨m, hm⟩ := k0; exact DataW.trod_lt m _ _ _ hm
  obtain ⟨a0, w0, z0, e0⟩ := open_sliceA (d := 9) (ls := [.int .u8]) Try.underlying52 (by kernel_rfl) (by kernel_rfl) (by decide) h0 (hval 0 52 v0 rfl rfl)
  obtain ⟨a1, rfl, rfl, rfl, w1⟩ := open_int Try.underlying3 (hval 1 3 v1 rfl rfl) h1
  clear hA0 hval0 hsz0
  refine (CallsA.below (cPacketFits w0 z0 (wf_int w1)) (.cons (e0) (.cons (.int _ _) (.nil)))).mono fun e W' ⟨he, bel⟩ => ?_
  subst he
  exact ⟨_, rfl, _, _, _, [], _, [], hW', trodAll_mk1 (shut_bool Try.underlying4 _), (trodAll_cons_mk (Below.trod jf1 (by kernel_rfl) (of_decide_eq_true (by kernel_rfl)) k0 bel lt0) (trodAll_cons_mk (shut_int Try.underlying3 w1) trodAll_mk0)), rfl, bel.frame _, fun h => by cases h⟩
set_option maxRecDepth 100000 in
theorem jf0_PacketFits : (Rows.packetFitsRow.wf (OpenSpec.ofChange Rows.packetFitsSpec)) = true := by kernel_rfl
set_option maxRecDepth 100000 in
theorem jf3_PacketFits : (Try.f17.params.all (Try.prog.readableRec ·)) = true := by kernel_rfl
set_option maxRecDepth 100000 in
theorem jf4_PacketFits : (namedTie Try.prog Rows.packetFitsRow.named Rows.packetFitsSpec.vars) = true := by kernel_rfl
set_option maxRecDepth 100000 in
theorem jf5_PacketFits : ((Rows.packetFitsRow.stops == [])) = true := by kernel_rfl
set_option maxRecDepth 100000 in
theorem jf7_PacketFits : ((Rows.packetFitsRow.knobs == [])) = true := by kernel_rfl
set_option maxRecDepth 100000 in
theorem jf9_PacketFits : ((Rows.packetFitsRow.inPlace == Try.prog.inPlace 17)) = true := by kernel_rfl
set_option maxRecDepth 100000 in
theorem jf10_PacketFits : ((Rows.packetFitsRow.unfollowed == Try.prog.unfollowed 17)) = true := by kernel_rfl
set_option maxRecDepth 100000 in
theorem jf11_PacketFits : ((Rows.packetFitsRow.recurses == Try.prog.recurses 17)) = true := by kernel_rfl
set_option maxRecDepth 100000 in
theorem jf12_PacketFits : ((Rows.packetFitsRow.named == Try.prog.varsNamed 17)) = true := by kernel_rfl
set_option maxRecDepth 100000 in
theorem jf13_PacketFits : ((Rows.packetFitsRow.maps == (Try.f17.params.toList ++ Rows.packetFitsSpec.plain.varTypes Try.prog).any (Try.prog.mapsRec ·))) = true := by kernel_rfl
set_option maxRecDepth 100000 in
theorem jf14_PacketFits : ((Rows.packetFitsRow.ifaces == (Try.f17.params.toList ++ Rows.packetFitsSpec.plain.varTypes Try.prog).any (Try.prog.ifacesRec ·))) = true := by kernel_rfl
set_option maxRecDepth 100000 in
theorem jf15_PacketFits : ((Rows.packetFitsRow.mapsOut == Try.prog.mapsAmong Try.f17.resultTypes.toList)) = true := by kernel_rfl
set_option maxRecDepth 100000 in
theorem jf16_PacketFits : ((Rows.packetFitsRow.loops == (Try.f17.params.toList ++ Rows.packetFitsSpec.plain.varTypes Try.prog).any (Try.prog.loopsFrom ·))) = true := by kernel_rfl
set_option maxRecDepth 100000 in
theorem jf17_PacketFits : ((Rows.packetFitsRow.wideKeys == (Try.f17.params.toList ++ Rows.packetFitsSpec.plain.varTypes Try.prog ++ Try.f17.resultTypes.toList).any (Try.prog.wideKeysFrom ·))) = true := by kernel_rfl
set_option maxRecDepth 100000 in
theorem jf18_PacketFits : (Rows.packetFitsSpec.vars.all (Try.prog.varReadable ·)) = true := by kernel_rfl
set_option maxRecDepth 100000 in
theorem jf19_PacketFits : (Try.f17.resultTypes.all (fun t => Try.prog.readableRec t && decide (t < Try.prog.types.size))) = true := by kernel_rfl
set_option maxRecDepth 100000 in
theorem jf20_PacketFits : ((Rows.packetFitsRow.ifacesOut == Try.f17.resultTypes.toList.any (Try.prog.ifacesRec ·))) = true := by kernel_rfl
set_option maxRecDepth 100000 in
theorem jf21_PacketFits : ((Rows.packetFitsRow.loopsOut == Try.f17.resultTypes.toList.any (Try.prog.loopsFrom ·))) = true := by kernel_rfl
set_option maxRecDepth 100000 in
theorem jf22_PacketFits : ((Rows.packetFitsRow.plainKeys == Try.prog.plainKeys)) = true := by kernel_rfl
set_option maxRecDepth 100000 in
theorem jf23_PacketFits : (Rows.packetFitsRow.shortTexts.isNone) = true := by kernel_rfl
set_option maxRecDepth 100000 in
theorem jf26_PacketFits : ((Rows.packetFitsRow.lifted == Try.prog.liftsFinal)) = true := by rw [lifts_eq]; rfl
set_option maxRecDepth 100000 in
theorem jf27_PacketFits : ((Try.prog.make == some Rows.packetFitsRow.make)) = true := by rw [make_eq]; rfl
set_option maxRecDepth 100000 in
theorem jf28_PacketFits : ((Rows.packetFitsRow.kinds == (if Rows.packetFitsRow.domain.isEmpty then [] else Try.f17.params.toList.map fun t => match Try.prog.underlying t with | some (.int k) => some k | _ => none))) = true := by kernel_rfl
set_option maxRecDepth 100000 in
theorem jf29_PacketFits : ((Rows.packetFitsRow.pinned == Rows.packetFitsRow.pinnedBy)) = true := by kernel_rfl
set_option maxRecDepth 100000 in
theorem jf30_PacketFits : ((Rows.packetFitsRow.veiled == (Try.f17.params.toList ++ Rows.packetFitsSpec.plain.varTypes Try.prog ++ Try.f17.resultTypes.toList).any (Try.prog.veiledRec ·))) = true := by kernel_rfl
set_option maxRecDepth 100000 in
theorem jf31_PacketFits : (Rows.packetFitsRow.veiledFits Try.prog Try.f17.params.toList (Try.f17.params.toList ++ Rows.packetFitsSpec.plain.varTypes Try.prog ++ Try.f17.resultTypes.toList)) = true := by kernel_rfl
/-- PacketFits holds. -/
theorem packetFits_holds : Rows.PacketFitsSaid :=
  OpenClaim.holds_of_wide 17 Try.f17 rfl rfl rfl rfl rfl rfl rfl ⟨rfl, rfl, rfl, rfl, rfl⟩ rfl rfl rfl rfl rfl (by kernel_rfl) Try.func17 (joined_of jf0_PacketFits jf1 jf2 jf3_PacketFits jf4_PacketFits jf5_PacketFits jf6 jf7_PacketFits jf8 jf9_PacketFits jf10_PacketFits jf11_PacketFits jf12_PacketFits jf13_PacketFits jf14_PacketFits jf15_PacketFits jf16_PacketFits jf17_PacketFits jf18_PacketFits jf19_PacketFits jf20_PacketFits jf21_PacketFits jf22_PacketFits jf23_PacketFits jf24 jf25 jf26_PacketFits jf27_PacketFits jf28_PacketFits jf29_PacketFits jf30_PacketFits jf31_PacketFits)
    (of_decide_eq_true (by kernel_rfl)) (by unfold Func.isWrapper; first | (rw [if_pos (by decide +kernel)]; kernel_rfl) | (rw [if_neg (by decide +kernel)]; exact ⟨rfl, rfl⟩))
    (fun os started H enc _ => lifted_PacketFits os started H enc)
end Go.Proofs.Ytdcijmigoefnjaa
