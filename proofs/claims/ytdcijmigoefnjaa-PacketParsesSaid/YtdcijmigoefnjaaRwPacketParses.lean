/- The row of PacketParses, out of its call. -/
import Derived.Test.YtdcijmigoefnjaaRows
import Derived.Test.YtdcijmigoefnjaaEvLa
import Derived.Test.YtdcijmigoefnjaaJf
import Derived.Test.YtdcijmigoefnjaaL45f
import Derived.WalkKit
import Derived.ProofKit
import Derived.OpenShut
import Derived.ShutString
import Derived.ChangeOld
import Derived.Below
import Derived.SizedLaws
set_option linter.unusedVariables false
set_option maxRecDepth 100000
namespace Go.Proofs.Ytdcijmigoefnjaa
open Go Go.Ev Go.ChangeShapes Go.WideShapes Go.ChangeAt Go.RowKit
open Go.ChangeMaps (open_string shut_string)
theorem own_PacketParses : ownKnob Try.prog.godebug = none := by kernel_rfl
set_option maxRecDepth 100000 in
theorem lifted_PacketParses (os : Os) (started : os.Started) (H : Type) (enc : TypeId × Value → H) :
    ReturnsInHanded {} Try.checked os 12 .any (Rows.packetParsesSpec.pre6 enc Try.prog Try.f12 Rows.packetParsesRow.domain false) (Rows.packetParsesSpec.post enc Try.prog Try.f12 false true false false) := by
  refine returnsInHanded_of_change_sized (C := Try.checked) own_PacketParses started (by kernel_rfl) Try.func12
    (ChangeSpec.witness6 (enc := enc) (C := Try.checked) false ⟨#[], #[.slice none 0 0, .int .i64 0], []⟩ 8 (by kernel_rfl) (by kernel_rfl) (by kernel_rfl) (by kernel_rfl)) ?_
  intro W base args ds gs before hval0 hW hcnd hsz0 _
  have hval : ∀ (j : Nat) t v, Try.f12.params[j]? = some t → args[j]? = some v → Value.okWide Try.prog W .any base t v := hval0
  have hW' := hW
  obtain ⟨p, q, hA0, hV, rfl, hfz, hnd⟩ := hW
  have hA : DataW.TrodAll enc Try.prog W 0 (fun _ => true) true Try.f12.params.toList args.toList ds p := hA0
  rw [Try.params12] at hA hval
  obtain ⟨v0, vs0, d0, ds0, p0, q0, hargs, rfl, rfl, h0, r0⟩ := trodAll_cons hA
  obtain ⟨v1, vs1, d1, ds1, p1, q1, rfl, rfl, rfl, h1, r1⟩ := trodAll_cons r0
  obtain ⟨rfl, rfl, rfl⟩ := trodAll_nil r1
  obtain rfl : args = #[v0, v1] := by cases args; simp_all
  obtain ⟨rfl, rfl⟩ := trodVars_none hV
  have k0 := h0
  have lt0 : ∀ x ∈ p0, x.block < W.heap.size := by obtain ⟨m, hm⟩ := k0; exact DataW.trod_lt m _ _ _ hm
  obtain ⟨a0, w0, z0, e0⟩ := open_sliceA (d := 9) (ls := [.int .u8]) Try.underlying52 (by kernel_rfl) (by kernel_rfl) (by decide) h0 (hval 0 52 v0 rfl rfl)
  obtain ⟨a1, rfl, rfl, rfl, w1⟩ := open_int Try.underlying3 (hval 1 3 v1 rfl rfl) h1
  clear hA0 hval0 hsz0
  refine (CallsA.below (cPacketParses w0 z0 (wf_int w1)) (.cons (e0) (.cons (.int _ _) (.nil)))).mono fun e W' ⟨he, bel⟩ => ?_
  subst he
  exact ⟨_, rfl, _, _, _, [], _, [], hW', trodAll_mk1 (shut_bool Try.underlying4 _), (trodAll_cons_mk (Below.trod jf1 (by kernel_rfl) (of_decide_eq_true (by kernel_rfl)) k0 bel lt0) (trodAll_cons_mk (shut_int Try.underlying3 w1) trodAll_mk0)), rfl, bel.frame _, fun h => by cases h⟩
set_option maxRecDepth 100000 in
theorem jf0_PacketParses : (Rows.packetParsesRow.wf (OpenSpec.ofChange Rows.packetParsesSpec)) = true := by kernel_rfl
set_option maxRecDepth 100000 in
theorem jf3_PacketParses : (Try.f12.params.all (Try.prog.readableRec ·)) = true := by kernel_rfl
set_option maxRecDepth 100000 in
theorem jf4_PacketParses : (namedTie Try.prog Rows.packetParsesRow.named Rows.packetParsesSpec.vars) = true := by kernel_rfl
set_option maxRecDepth 100000 in
theorem jf5_PacketParses : ((Rows.packetParsesRow.stops == [])) = true := by kernel_rfl
set_option maxRecDepth 100000 in
theorem jf7_PacketParses : ((Rows.packetParsesRow.knobs == [])) = true := by kernel_rfl
set_option maxRecDepth 100000 in
theorem jf9_PacketParses : ((Rows.packetParsesRow.inPlace == Try.prog.inPlace 12)) = true := by kernel_rfl
set_option maxRecDepth 100000 in
theorem jf10_PacketParses : ((Rows.packetParsesRow.unfollowed == Try.prog.unfollowed 12)) = true := by kernel_rfl
set_option maxRecDepth 100000 in
theorem jf11_PacketParses : ((Rows.packetParsesRow.recurses == Try.prog.recurses 12)) = true := by kernel_rfl
set_option maxRecDepth 100000 in
theorem jf12_PacketParses : ((Rows.packetParsesRow.named == Try.prog.varsNamed 12)) = true := by kernel_rfl
set_option maxRecDepth 100000 in
theorem jf13_PacketParses : ((Rows.packetParsesRow.maps == (Try.f12.params.toList ++ Rows.packetParsesSpec.plain.varTypes Try.prog).any (Try.prog.mapsRec ·))) = true := by kernel_rfl
set_option maxRecDepth 100000 in
theorem jf14_PacketParses : ((Rows.packetParsesRow.ifaces == (Try.f12.params.toList ++ Rows.packetParsesSpec.plain.varTypes Try.prog).any (Try.prog.ifacesRec ·))) = true := by kernel_rfl
set_option maxRecDepth 100000 in
theorem jf15_PacketParses : ((Rows.packetParsesRow.mapsOut == Try.prog.mapsAmong Try.f12.resultTypes.toList)) = true := by kernel_rfl
set_option maxRecDepth 100000 in
theorem jf16_PacketParses : ((Rows.packetParsesRow.loops == (Try.f12.params.toList ++ Rows.packetParsesSpec.plain.varTypes Try.prog).any (Try.prog.loopsFrom ·))) = true := by kernel_rfl
set_option maxRecDepth 100000 in
theorem jf17_PacketParses : ((Rows.packetParsesRow.wideKeys == (Try.f12.params.toList ++ Rows.packetParsesSpec.plain.varTypes Try.prog ++ Try.f12.resultTypes.toList).any (Try.prog.wideKeysFrom ·))) = true := by kernel_rfl
set_option maxRecDepth 100000 in
theorem jf18_PacketParses : (Rows.packetParsesSpec.vars.all (Try.prog.varReadable ·)) = true := by kernel_rfl
set_option maxRecDepth 100000 in
theorem jf19_PacketParses : (Try.f12.resultTypes.all (fun t => Try.prog.readableRec t && decide (t < Try.prog.types.size))) = true := by kernel_rfl
set_option maxRecDepth 100000 in
theorem jf20_PacketParses : ((Rows.packetParsesRow.ifacesOut == Try.f12.resultTypes.toList.any (Try.prog.ifacesRec ·))) = true := by kernel_rfl
set_option maxRecDepth 100000 in
theorem jf21_PacketParses : ((Rows.packetParsesRow.loopsOut == Try.f12.resultTypes.toList.any (Try.prog.loopsFrom ·))) = true := by kernel_rfl
set_option maxRecDepth 100000 in
theorem jf22_PacketParses : ((Rows.packetParsesRow.plainKeys == Try.prog.plainKeys)) = true := by kernel_rfl
set_option maxRecDepth 100000 in
theorem jf23_PacketParses : (Rows.packetParsesRow.shortTexts.isNone) = true := by kernel_rfl
set_option maxRecDepth 100000 in
theorem jf26_PacketParses : ((Rows.packetParsesRow.lifted == Try.prog.liftsFinal)) = true := by rw [lifts_eq]; rfl
set_option maxRecDepth 100000 in
theorem jf27_PacketParses : ((Try.prog.make == some Rows.packetParsesRow.make)) = true := by rw [make_eq]; rfl
set_option maxRecDepth 100000 in
theorem jf28_PacketParses : ((Rows.packetParsesRow.kinds == (if Rows.packetParsesRow.domain.isEmpty then [] else Try.f12.params.toList.map fun t => match Try.prog.underlying t with | some (.int k) => some k | _ => none))) = true := by kernel_rfl
set_option maxRecDepth 100000 in
theorem jf29_PacketParses : ((Rows.packetParsesRow.pinned == Rows.packetParsesRow.pinnedBy)) = true := by kernel_rfl
set_option maxRecDepth 100000 in
theorem jf30_PacketParses : ((Rows.packetParsesRow.veiled == (Try.f12.params.toList ++ Rows.packetParsesSpec.plain.varTypes Try.prog ++ Try.f12.resultTypes.toList).any (Try.prog.veiledRec ·))) = true := by kernel_rfl
set_option maxRecDepth 100000 in
theorem jf31_PacketParses : (Rows.packetParsesRow.veiledFits Try.prog Try.f12.params.toList (Try.f12.params.toList ++ Rows.packetParsesSpec.plain.varTypes Try.prog ++ Try.f12.resultTypes.toList)) = true := by kernel_rfl
/-- PacketParses holds. -/
theorem packetParses_holds : Rows.PacketParsesSaid :=
  OpenClaim.holds_of_wide 12 Try.f12 rfl rfl rfl rfl rfl rfl rfl ⟨rfl, rfl, rfl, rfl, rfl⟩ rfl rfl rfl rfl rfl (by kernel_rfl) Try.func12 (joined_of jf0_PacketParses jf1 jf2 jf3_PacketParses jf4_PacketParses jf5_PacketParses jf6 jf7_PacketParses jf8 jf9_PacketParses jf10_PacketParses jf11_PacketParses jf12_PacketParses jf13_PacketParses jf14_PacketParses jf15_PacketParses jf16_PacketParses jf17_PacketParses jf18_PacketParses jf19_PacketParses jf20_PacketParses jf21_PacketParses jf22_PacketParses jf23_PacketParses jf24 jf25 jf26_PacketParses jf27_PacketParses jf28_PacketParses jf29_PacketParses jf30_PacketParses jf31_PacketParses)
    (of_decide_eq_true (by kernel_rfl)) (by unfold Func.isWrapper; first | (rw [if_pos (by decide +kernel)]; kernel_rfl) | (rw [if_neg (by decide +kernel)]; exact ⟨rfl, rfl⟩))
    (fun os started H enc _ => lifted_PacketParses os started H enc)
end Go.Proofs.Ytdcijmigoefnjaa
