/- The row of PacketTail, out of its call. -/
import Derived.Test.YtdcijmigoefnjaaRows
import Derived.Test.YtdcijmigoefnjaaEvLa
import Derived.Test.YtdcijmigoefnjaaJf
import Derived.Test.YtdcijmigoefnjaaL45g
import Derived.WalkKit
import Derived.ProofKit
import Derived.OpenShut
import Derived.ShutString
import Derived.ChangeOld
import Derived.Below
import Derived.SizedLaws
set_option linter.unusedVariables false
set_option maxRecDepth 100000
namespace Go.Proofs.Ytdcijmigoefnjaa
open Go Go.Ev Go.ChangeShapes Go.WideShapes Go.ChangeAt Go.RowKit
open Go.ChangeMaps (open_string shut_string)
theorem own_PacketTail : ownKnob Try.prog.godebug = none := by kernel_rfl
set_option maxRecDepth 100000 in
theorem lifted_PacketTail (os : Os) (started : os.Started) (H : Type) (enc : TypeId × Value → H) :
    ReturnsInHanded {} Try.checked os 14 .any (Rows.packetTailSpec.pre6 enc Try.prog Try.f14 Rows.packetTailRow.domain false) (Rows.packetTailSpec.post enc Try.prog Try.f14 false true false false) := by
  refine returnsInHanded_of_change_sized (C := Try.checked) own_PacketTail started (by kernel_rfl) Try.func14
    (ChangeSpec.witness6 (enc := enc) (C := Try.checked) false ⟨#[], #[.slice none 0 0, .slice none 0 0, .int .i64 0], []⟩ 8 (by kernel_rfl) (by kernel_rfl) (by kernel_rfl) (by kernel_rfl)) ?_
  intro W base args ds gs before hval0 hW hcnd hsz0 _
  have hval : ∀ (j : Nat) t v, Try.f14.params[j]? = some t → args[j]? = some v → Value.okWide Try.prog W .any base t v := hval0
  have hW' := hW
  obtain ⟨p, q, hA0, hV, rfl, hfz, hnd⟩ := hW
  have hA : DataW.TrodAll enc Try.prog W 0 (fun _ => true) true Try.f14.params.toList args.toList ds p := hA0
  rw [Try.params14] at hA hval
  obtain ⟨v0, vs0, d0, ds0, p0, q0, hargs, rfl, rfl, h0, r0⟩ := trodAll_cons hA
  obtain ⟨v1, vs1, d1, ds1, p1, q1, rfl, rfl, rfl, h1, r1⟩ := trodAll_cons r0
  obtain ⟨v2, vs2, d2, ds2, p2, q2, rfl, rfl, rfl, h2, r2⟩ := trodAll_cons r1
  obtain ⟨rfl, rfl, rfl⟩ := trodAll_nil r2
  obtain rfl : args = #[v0, v1, v2] := by cases args; simp_all
  obtain ⟨rfl, rfl⟩ := trodVars_none hV
  have k0 := h0
  have lt0 : ∀ x ∈ p0, x.block < W.heap.size := by obtain ⟨m, hm⟩ := k0; exact DataW.trod_lt m _ _ _ hm
  obtain ⟨a0, w0, z0, e0⟩ := open_sliceA (d := 9) (ls := [.int .u8]) Try.underlying52 (by kernel_rfl) (by kernel_rfl) (by decide) h0 (hval 0 52 v0 rfl rfl)
  have k1 := h1
  have lt1 : ∀ x ∈ p1, x.block < W.heap.size := by obtain ⟨m, hm⟩ := k1; exact DataW.trod_lt m _ _ _ hm
  obtain ⟨a1, w1, z1, e1⟩ := open_sliceA (d := 9) (ls := [.int .u8]) Try.underlying52 (by kernel_rfl) (by kernel_rfl) (by decide) h1 (hval 1 52 v1 rfl rfl)
  obtain ⟨a2, rfl, rfl, rfl, w2⟩ := open_int Try.underlying3 (hval 2 3 v2 rfl rfl) h2
  clear hA0 hval0 hsz0
  refine (CallsA.below (cPacketTail w0 z0 w1 z1 (wf_int w2)) (.cons (e0) (.cons (e1) (.cons (.int _ _) (.nil))))).mono fun e W' ⟨he, bel⟩ => ?_
  subst he
  exact ⟨_, rfl, _, _, _, [], _, [], hW', trodAll_mk1 (shut_bool Try.underlying4 _), (trodAll_cons_mk (Below.trod jf1 (by kernel_rfl) (of_decide_eq_true (by kernel_rfl)) k0 bel lt0) (trodAll_cons_mk (Below.trod jf1 (by kernel_rfl) (of_decide_eq_true (by kernel_rfl)) k1 bel lt1) (trodAll_cons_mk (shut_int Try.underlying3 w2) trodAll_mk0))), rfl, bel.frame _, fun h => by cases h⟩
set_option maxRecDepth 100000 in
theorem jf0_PacketTail : (Rows.packetTailRow.wf (OpenSpec.ofChange Rows.packetTailSpec)) = true := by kernel_rfl
set_option maxRecDepth 100000 in
theorem jf3_PacketTail : (Try.f14.params.all (Try.prog.readableRec ·)) = true := by kernel_rfl
set_option maxRecDepth 100000 in
theorem jf4_PacketTail : (namedTie Try.prog Rows.packetTailRow.named Rows.packetTailSpec.vars) = true := by kernel_rfl
set_option maxRecDepth 100000 in
theorem jf5_PacketTail : ((Rows.packetTailRow.stops == [])) = true := by kernel_rfl
set_option maxRecDepth 100000 in
theorem jf7_PacketTail : ((Rows.packetTailRow.knobs == [])) = true := by kernel_rfl
set_option maxRecDepth 100000 in
theorem jf9_PacketTail : ((Rows.packetTailRow.inPlace == Try.prog.inPlace 14)) = true := by kernel_rfl
set_option maxRecDepth 100000 in
theorem jf10_PacketTail : ((Rows.packetTailRow.unfollowed == Try.prog.unfollowed 14)) = true := by kernel_rfl
set_option maxRecDepth 100000 in
theorem jf11_PacketTail : ((Rows.packetTailRow.recurses == Try.prog.recurses 14)) = true := by kernel_rfl
set_option maxRecDepth 100000 in
theorem jf12_PacketTail : ((Rows.packetTailRow.named == Try.prog.varsNamed 14)) = true := by kernel_rfl
set_option maxRecDepth 100000 in
theorem jf13_PacketTail : ((Rows.packetTailRow.maps == (Try.f14.params.toList ++ Rows.packetTailSpec.plain.varTypes Try.prog).any (Try.prog.mapsRec ·))) = true := by kernel_rfl
set_option maxRecDepth 100000 in
theorem jf14_PacketTail : ((Rows.packetTailRow.ifaces == (Try.f14.params.toList ++ Rows.packetTailSpec.plain.varTypes Try.prog).any (Try.prog.ifacesRec ·))) = true := by kernel_rfl
set_option maxRecDepth 100000 in
theorem jf15_PacketTail : ((Rows.packetTailRow.mapsOut == Try.prog.mapsAmong Try.f14.resultTypes.toList)) = true := by kernel_rfl
set_option maxRecDepth 100000 in
theorem jf16_PacketTail : ((Rows.packetTailRow.loops == (Try.f14.params.toList ++ Rows.packetTailSpec.plain.varTypes Try.prog).any (Try.prog.loopsFrom ·))) = true := by kernel_rfl
set_option maxRecDepth 100000 in
theorem jf17_PacketTail : ((Rows.packetTailRow.wideKeys == (Try.f14.params.toList ++ Rows.packetTailSpec.plain.varTypes Try.prog ++ Try.f14.resultTypes.toList).any (Try.prog.wideKeysFrom ·))) = true := by kernel_rfl
set_option maxRecDepth 100000 in
theorem jf18_PacketTail : (Rows.packetTailSpec.vars.all (Try.prog.varReadable ·)) = true := by kernel_rfl
set_option maxRecDepth 100000 in
theorem jf19_PacketTail : (Try.f14.resultTypes.all (fun t => Try.prog.readableRec t && decide (t < Try.prog.types.size))) = true := by kernel_rfl
set_option maxRecDepth 100000 in
theorem jf20_PacketTail : ((Rows.packetTailRow.ifacesOut == Try.f14.resultTypes.toList.any (Try.prog.ifacesRec ·))) = true := by kernel_rfl
set_option maxRecDepth 100000 in
theorem jf21_PacketTail : ((Rows.packetTailRow.loopsOut == Try.f14.resultTypes.toList.any (Try.prog.loopsFrom ·))) = true := by kernel_rfl
set_option maxRecDepth 100000 in
theorem jf22_PacketTail : ((Rows.packetTailRow.plainKeys == Try.prog.plainKeys)) = true := by kernel_rfl
set_option maxRecDepth 100000 in
theorem jf23_PacketTail : (Rows.packetTailRow.shortTexts.isNone) = true := by kernel_rfl
set_option maxRecDepth 100000 in
theorem jf26_PacketTail : ((Rows.packetTailRow.lifted == Try.prog.liftsFinal)) = true := by rw [lifts_eq]; rfl
set_option maxRecDepth 100000 in
theorem jf27_PacketTail : ((Try.prog.make == some Rows.packetTailRow.make)) = true := by rw [make_eq]; rfl
set_option maxRecDepth 100000 in
theorem jf28_PacketTail : ((Rows.packetTailRow.kinds == (if Rows.packetTailRow.domain.isEmpty then [] else Try.f14.params.toList.map fun t => match Try.prog.underlying t with | some (.int k) => some k | _ => none))) = true := by kernel_rfl
set_option maxRecDepth 100000 in
theorem jf29_PacketTail : ((Rows.packetTailRow.pinned == Rows.packetTailRow.pinnedBy)) = true := by kernel_rfl
set_option maxRecDepth 100000 in
theorem jf30_PacketTail : ((Rows.packetTailRow.veiled == (Try.f14.params.toList ++ Rows.packetTailSpec.plain.varTypes Try.prog ++ Try.f14.resultTypes.toList).any (Try.prog.veiledRec ·))) = true := by kernel_rfl
set_option maxRecDepth 100000 in
theorem jf31_PacketTail : (Rows.packetTailRow.veiledFits Try.prog Try.f14.params.toList (Try.f14.params.toList ++ Rows.packetTailSpec.plain.varTypes Try.prog ++ Try.f14.resultTypes.toList)) = true := by kernel_rfl
/-- PacketTail holds. -/
theorem packetTail_holds : Rows.PacketTailSaid :=
  OpenClaim.holds_of_wide 14 Try.f14 rfl rfl rfl rfl rfl rfl rfl ⟨rfl, rfl, rfl, rfl, rfl⟩ rfl rfl rfl rfl rfl (by kernel_rfl) Try.func14 (joined_of jf0_PacketTail jf1 jf2 jf3_PacketTail jf4_PacketTail jf5_PacketTail jf6 jf7_PacketTail jf8 jf9_PacketTail jf10_PacketTail jf11_PacketTail jf12_PacketTail jf13_PacketTail jf14_PacketTail jf15_PacketTail jf16_PacketTail jf17_PacketTail jf18_PacketTail jf19_PacketTail jf20_PacketTail jf21_PacketTail jf22_PacketTail jf23_PacketTail jf24 jf25 jf26_PacketTail jf27_PacketTail jf28_PacketTail jf29_PacketTail jf30_PacketTail jf31_PacketTail)
    (of_decide_eq_true (by kernel_rfl)) (by unfold Func.isWrapper; first | (rw [if_pos (by decide +kernel)]; kernel_rfl) | (rw [if_neg (by decide +kernel)]; exact ⟨rfl, rfl⟩))
    (fun os started H enc _ => lifted_PacketTail os started H enc)
end Go.Proofs.Ytdcijmigoefnjaa
