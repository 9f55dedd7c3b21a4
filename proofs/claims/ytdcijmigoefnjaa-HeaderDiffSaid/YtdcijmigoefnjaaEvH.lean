/- The evaluator: operations that leave the world as it is are sound (3). -/
import Derived.Test.YtdcijmigoefnjaaEvG
set_option linter.unusedVariables false
set_option linter.unusedSimpArgs false
namespace Go.Ev
open Go

/-- an operand that may lack, and what it stands for -/
def RepO (G : Gh) (w : World) : Option AV → Option Value → Prop
  | none, none => True
  | some a, some v => RepT G w a v
  | _, _ => False

theorem bound_ok {P : Program} {G w d x xv top k} (h : boundA d x top = some k) (hx : RepO G w x xv) :
    (xv = none ∧ k = d) ∨ ∃ kd i, xv = some (.int kd i) ∧ 0 ≤ i ∧ i ≤ top ∧ k = i.toNat := by
  unfold boundA at h
  split at h
  · cases xv with
    | none => cases h; exact .inl ⟨rfl, rfl⟩
    | some v => exact hx.elim
  · rename_i kd i
    cases xv with
    | none => exact hx.elim
    | some v =>
      have := RepT.int_inv hx; subst v
      cases hb : inR i (top + 1) <;> rw [hb] at h <;> simp at h
      obtain ⟨h0, h1⟩ := inR_ok hb
      exact .inr ⟨kd, i, rfl, h0, by omega, h.symm⟩
  · cases h

theorem run_sliceBound (P : Program) (w : World) (k : IntKind) (i : Int) (top : Nat) (code : BoundsCode) (h0 : 0 ≤ i) (h1 : i ≤ top) : (Instr.sliceBound (.int k i) top code).run P w = .ok i.toNat w := by
  simp only [Instr.sliceBound, Sem.run_bind, asIntOf, Sem.run_pure, Result.andThen_ok]
  rw [if_pos ⟨h0, h1⟩]
  simp

/-- bounds without a third -/
theorem bounds2 {P : Program} {G w lo hi lov hiv n h l} (isS : Bool) (cap : Nat) (hcap : n ≤ cap) (hh : boundA n hi n = some h) (hl : boundA 0 lo h = some l) (rh : RepO G w hi hiv) (rl : RepO G w lo lov) :
    (Instr.sliceBounds isS n cap lov hiv none).run P w = .ok (l, h, cap) w ∧ l ≤ h ∧ h ≤ n := by
  have a := bound_ok (P := P) hh rh
  have b := bound_ok (P := P) hl rl
  rcases a with ⟨rfl, rfl⟩ | ⟨kd, i, rfl, h0, h1, rfl⟩ <;> rcases b with ⟨rfl, rfl⟩ | ⟨kd', i', rfl, h0', h1', rfl⟩
  · exact ⟨by simp [Instr.sliceBounds], by omega, by omega⟩
  · refine ⟨?_, by omega, by omega⟩
    simp [Instr.sliceBounds, run_sliceBound P w kd' i' h _ h0' h1']
  · refine ⟨?_, by omega, by omega⟩
    simp [Instr.sliceBounds, run_sliceBound P w kd i cap _ h0 (by omega)]
  · refine ⟨?_, by omega, by omega⟩
    simp [Instr.sliceBounds, run_sliceBound P w kd i cap _ h0 (by omega), run_sliceBound P w kd' i' i.toNat _ h0' h1']

theorem bounds3 {P : Program} {G w lo hi mx lov hiv mxv n h l} (isS : Bool) (cap : Nat) (hcap : n ≤ cap) (hh : boundA n hi n = some h) (hl : boundA 0 lo h = some l) (hm : boundA 0 (some mx) h = some h)
    (rh : RepO G w hi hiv) (rl : RepO G w lo lov) (rm : RepT G w mx mxv) (his : hi.isSome = true) :
    (Instr.sliceBounds isS n cap lov hiv (some mxv)).run P w = .ok (l, h, h) w ∧ l ≤ h ∧ h ≤ n := by
  have a := bound_ok (P := P) hh rh
  have b := bound_ok (P := P) hl rl
  have c := bound_ok (P := P) (xv := some mxv) hm rm
  have hhi : hiv ≠ none := by
    cases hi with
    | none => simp at his
    | some x => cases hiv with
      | none => exact rh.elim
      | some v => simp
  rcases c with ⟨h', _⟩ | ⟨km, im, hm', hm0, hm1, hm2⟩
  · cases h'
  cases hm'
  rcases a with ⟨rfl, rfl⟩ | ⟨kd, i, rfl, h0, h1, rfl⟩
  · exact absurd rfl hhi
  have e1 : (Instr.sliceBound (.int km im) cap (if isS then .slice3Acap else .slice3Alen)).run P w = .ok im.toNat w := run_sliceBound P w km im cap _ hm0 (by omega)
  rcases b with ⟨rfl, rfl⟩ | ⟨kd', i', rfl, h0', h1', rfl⟩
  · refine ⟨?_, by omega, by omega⟩
    simp [Instr.sliceBounds, e1, ← hm2, run_sliceBound P w kd i i.toNat _ h0 (by omega)]
  · refine ⟨?_, by omega, by omega⟩
    simp [Instr.sliceBounds, e1, ← hm2, run_sliceBound P w kd i i.toNat _ h0 (by omega), run_sliceBound P w kd' i' i.toNat _ h0' h1']

theorem slice_ok {P ty} (hT : TyOk P ty) {G w t x lo hi mx r xv lov hiv mxv} (hx : RepT G w x xv) (rl : RepO G w lo lov) (rh : RepO G w hi hiv) (rm : RepO G w mx mxv) (h : sliceA ty t x lo hi mx = some r) :
    ∃ v, (Instr.sliceAt t xv lov hiv mxv).run P w = .ok v w ∧ RepT G w r v := by
  unfold sliceA at h
  split at h
  · rename_i s
    cases mx with
    | some m => simp at h
    | none =>
    have hm : mxv = none := by cases mxv with | none => rfl | some v => exact rm.elim
    subst hm
    simp only at h
    cases hh : boundA s.length hi s.length with
    | none => simp [hh] at h
    | some hv =>
    simp only [hh] at h
    cases hl : boundA 0 lo hv with
    | none => simp [hl] at h
    | some lv =>
    simp only [hl] at h
    cases hst : isStr ty t <;> rw [hst] at h <;> simp only [cond_true, cond_false] at h
    · cases h
    cases h
    have hu : P.underlying t = some .string := by
      unfold isStr at hst
      cases ht : ty t with
      | none => simp [ht] at hst
      | some ti =>
        simp only [ht] at hst
        split at hst
        · rename_i hd; exact und_str hT ht hd
        · cases hst
    have := hx.str_inv; subst xv
    have hsz : (ByteArray.mk s.toArray).size = s.length := by simp [ByteArray.size]
    obtain ⟨hbd, h1, h2⟩ := bounds2 (P := P) false s.length (Nat.le_refl _) hh hl rh rl
    refine ⟨.string ((ByteArray.mk s.toArray).extract lv hv), ?_, ?_⟩
    · simp only [Instr.sliceAt, Sem.run_bind, run_underlying hu, Result.andThen_ok]
      simp [Instr.slice, run_underlying hu, hsz, hbd]
    · have e : (ByteArray.mk s.toArray).extract lv hv = ⟨((s.drop lv).take (hv - lv)).toArray⟩ := by
        apply ByteArray.ext
        simp [ByteArray.data_extract, List.extract_toArray, List.extract_eq_take_drop]
      rw [e]; exact .of (.str _)
  · rename_i sz xs st
    cases he : elemOf ty t with
    | none => simp [he] at h
    | some ei =>
    simp only [he] at h
    obtain ⟨hs, _⟩ := elemOf_ok hT he
    cases hb : (isSlice ty t && ((sz == ei.size && st != .nil) || (st == .nil && xs.isEmpty))) <;> rw [hb] at h <;> simp only [cond_true, cond_false] at h
    · cases h
    simp only [Bool.and_eq_true, Bool.or_eq_true, beq_iff_eq, bne_iff_ne, List.isEmpty_iff] at hb
    obtain ⟨hb1, hb2⟩ := hb
    obtain ⟨et, hu, hte⟩ := hs hb1
    obtain ⟨a, cap, rfl, hle, hn, hf, hr⟩ := hx.sl_inv
    cases hh : boundA xs.length hi xs.length with
    | none => simp [hh] at h
    | some hv =>
    simp only [hh] at h
    cases hl : boundA 0 lo hv with
    | none => simp [hl] at h
    | some lv =>
    simp only [hl] at h
    have key : ∀ m, (Instr.sliceBounds true xs.length cap lov hiv mxv).run P w = .ok (lv, hv, m) w → (Instr.sliceAt t (.slice a xs.length cap) lov hiv mxv).run P w = .ok (.slice (if m = lv then a else a.map (·.add (lv * ei.size))) (hv - lv) (m - lv)) w := by
      intro m hm
      simp only [Instr.sliceAt, Sem.run_bind, run_underlying hu, Result.andThen_ok]
      simp [Instr.slice, run_underlying hu, hm, run_size hT hte]
    have rep : ∀ m st', lv ≤ hv → hv ≤ xs.length → hv ≤ m → m ≤ cap → (st' = .full ∧ m = hv ∨ st' = .sh) → st ≠ .nil → sz = ei.size → 
        RepT G w (.sl sz ((xs.drop lv).take (hv - lv)) st') (.slice (if m = lv then a else a.map (·.add (lv * ei.size))) (hv - lv) (m - lv)) := by
      intro m st' h1 h2 h3 h4 h5 h6 h7
      subst h7
      rcases hr h6 with ⟨ad, vs, rfl, hrr, hd⟩ | ⟨ha0, hx0, hc0, _⟩
      rotate_left
      · have e0 : xs.length = 0 := by rw [hx0]; rfl
        have e1 : hv = 0 := by omega
        have e2 : lv = 0 := by omega
        have e3 : m = 0 := by omega
        rw [e1, e2, e3, hx0, ha0]
        simp only [List.drop_nil, List.take_nil, if_true, Nat.sub_self]
        rcases h5 with ⟨rfl, _⟩ | rfl
        · exact .of .slFullNil
        · exact .of .slShNil
      have hlen : ((xs.drop lv).take (hv - lv)).length = hv - lv := by simp; omega
      have hrr' := (hrr.drop lv).take (hv - lv)
      have hd' := (hd.add (lv * ei.size)).take ((hv - lv) * ei.size)
      by_cases hml : m = lv
      · have : hv - lv = 0 := by omega
        simp only [hml, if_true, this, Nat.sub_self] at *
        simp only [List.take_zero, Nat.zero_mul] at *
        rcases h5 with ⟨rfl, _⟩ | rfl
        · exact .of (RepV.slFull (xs := []) .nil (Rd.nil hd.1))
        · exact .of (RepV.slSh (xs := []) 0 .nil (Rd.nil hd.1) (by simp))
      · rw [if_neg hml]
        rcases h5 with ⟨rfl, rfl⟩ | rfl
        · have := RepV.slFull (β := G.β) hrr' hd'
          rw [hlen] at this
          exact .of this
        · have := RepV.slSh (β := G.β) (m - lv) hrr' hd' (by omega)
          rw [hlen] at this
          exact .of this
    cases mx with
    | none =>
      have hm : mxv = none := by cases mxv with | none => rfl | some v => exact rm.elim
      subst hm
      obtain ⟨hbd, h1, h2⟩ := bounds2 (P := P) true cap hle hh hl rh rl
      refine ⟨_, key _ hbd, ?_⟩
      simp only at h
      cases hst : st == .nil
      · rw [hst] at h
        simp only [cond_false, Option.some.injEq] at h
        subst h
        have hst' : st ≠ .nil := by simpa using hst
        have hsz : sz = ei.size := by rcases hb2 with h | h; exact h.1; exact absurd h.1 hst'
        split
        · rename_i hfull
          simp at hfull
          obtain ⟨rfl, rfl⟩ := hfull
          exact rep cap .full h1 h2 (by omega) (by omega) (.inl ⟨rfl, by have := hf rfl; omega⟩) hst' hsz
        · exact rep cap .sh h1 h2 (by omega) (by omega) (.inr rfl) hst' hsz
      · rw [hst] at h
        simp only [cond_true, Option.some.injEq] at h
        subst h
        have hst' : st = .nil := by simpa using hst
        obtain ⟨rfl, rfl, rfl⟩ := hn hst'
        simp at h2; subst h2
        simp at h1; subst h1
        subst hst'
        simp; exact .of .slNil
    | some m =>
      cases mxv with
      | none => exact rm.elim
      | some mv =>
      simp only at h
      cases hm' : boundA 0 (some m) hv with
      | none => simp [hm'] at h
      | some m' =>
      simp only [hm'] at h
      cases hq : (hi.isSome && m' == hv) <;> rw [hq] at h <;> simp only [cond_true, cond_false] at h
      · cases h
      simp only [Bool.and_eq_true, beq_iff_eq] at hq
      obtain ⟨hq1, rfl⟩ := hq
      obtain ⟨hbd, h1, h2⟩ := bounds3 (P := P) true cap hle hh hl hm' rh rl rm hq1
      refine ⟨_, key _ hbd, ?_⟩
      cases hst : st == .nil
      · rw [hst] at h
        simp only [cond_false, Option.some.injEq] at h
        subst h
        have hst' : st ≠ .nil := by simpa using hst
        have hsz : sz = ei.size := by rcases hb2 with h | h; exact h.1; exact absurd h.1 hst'
        exact rep m' .full h1 h2 (by omega) (by omega) (.inl ⟨rfl, rfl⟩) hst' hsz
      · rw [hst] at h
        simp only [cond_true, Option.some.injEq] at h
        subst h
        have hst' : st = .nil := by simpa using hst
        obtain ⟨rfl, rfl, rfl⟩ := hn hst'
        simp at h2; subst h2
        simp at h1; subst h1
        subst hst'
        simp; exact .of .slNil
  · rename_i id off
    cases hn : arrLen ty t with
    | none => simp [hn] at h
    | some n =>
    cases he : elemOf ty t with
    | none => simp [hn, he] at h
    | some ei =>
    cases mx with
    | some m => simp [hn, he] at h
    | none =>
    have hm : mxv = none := by cases mxv with | none => rfl | some v => exact rm.elim
    subst hm
    simp only [hn, he] at h
    obtain ⟨et, hu, hte⟩ := (elemOf_ok hT he).2 n hn
    cases hh : boundA n hi n with
    | none => simp [hh] at h
    | some hv =>
    simp only [hh] at h
    cases hl : boundA 0 lo hv with
    | none => simp [hl] at h
    | some lv =>
    simp only [hl, Option.some.injEq] at h
    subst h
    obtain ⟨b, hβ, rfl⟩ := hx.ptr_inv
    obtain ⟨hbd, h1, h2⟩ := bounds2 (P := P) false n (Nat.le_refl _) hh hl rh rl
    refine ⟨.slice (some (if n = lv then ⟨b, off, none⟩ else (Addr.mk b off none).add (lv * ei.size))) (hv - lv) (n - lv), ?_, ?_⟩
    · simp [Instr.sliceAt, run_underlying hu, Instr.sureAddr, hbd, run_size hT hte]
    · by_cases hnl : n = lv
      · rw [if_pos hnl, if_pos (by simpa using hnl)]
        exact .of (.view _ hβ (by omega))
      · rw [if_neg hnl, if_neg (by simpa using hnl), add_mk]
        exact .of (.view _ hβ (by omega))
  · cases h

end Go.Ev
