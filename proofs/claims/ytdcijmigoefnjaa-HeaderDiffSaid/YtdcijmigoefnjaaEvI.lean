/- The evaluator: operations that leave the world as it is are sound (4): all of them. -/
import Derived.Test.YtdcijmigoefnjaaEvH
set_option linter.unusedVariables false
set_option linter.unusedSimpArgs false
namespace Go.Ev
open Go

theorem repO_map {G w} {ρ : Operand → AV} {ρc : Operand → Value} (hρ : ∀ x, RepT G w (ρ x) (ρc x)) (o : Option Operand) : RepO G w (o.map ρ) (o.map ρc) := by
  cases o with
  | none => trivial
  | some x => exact hρ x

theorem lenA_ok {P ty} (hT : TyOk P ty) {G w t x r xv} (oty : TypeId) (hx : RepT G w x xv) (h : lenA ty t x = some r) : ∃ v, (Builtin.len_ #[t] oty #[xv]).run P w = .ok v w ∧ RepT G w r v := by
  unfold lenA at h
  cases ht : ty t with
  | none => simp [ht] at h
  | some ti =>
    simp only [ht] at h
    split at h
    · rename_i s hd
      cases h
      have := hx.str_inv; subst xv
      exact ⟨goInt s.length, by
        have hsz : (ByteArray.mk s.toArray).size = s.length := by simp [ByteArray.size]
        simp [Builtin.len_, run_underlying (und_str hT ht hd), hsz], .of (.int _ _)⟩
    · rename_i e sz xs st hd
      cases h
      obtain ⟨a, cap, rfl, _⟩ := hx.sl_inv
      exact ⟨goInt xs.length, by simp [Builtin.len_, run_underlying (und_slice hT ht hd)], .of (.int _ _)⟩
    · rename_i e id off n hd
      cases h
      obtain ⟨b, cap, _, rfl, _⟩ := hx.view_inv
      exact ⟨goInt n, by simp [Builtin.len_, run_underlying (und_slice hT ht hd)], .of (.int _ _)⟩
    · rename_i n e hd
      cases h
      exact ⟨goInt n, by simp [Builtin.len_, run_underlying (und_arr hT ht hd)], .of (.int _ _)⟩
    · cases h

theorem evPure_ok {P ty} (hT : TyOk P ty) {G w} {ρ : Operand → AV} {ρc : Operand → Value} (hρ : ∀ x, RepT G w (ρ x) (ρc x)) (o : Oper) {r : AV} (h : evPure ty ρ o.op = some r) :
    ∃ v, (execOp ρc o).run P w = .ok (.value v) w ∧ RepT G w r v := by
  obtain ⟨dst, op, oty, pos, after, guard⟩ := o
  simp only at h
  cases op with
  | move x => simp [evPure] at h; subst h; exact ⟨ρc x, by simp [execOp], hρ x⟩
  | assign x => simp [evPure] at h; subst h; exact ⟨ρc x, by simp [execOp], hρ x⟩
  | pick c a b =>
    simp only [evPure] at h
    split at h
    · rename_i t hc
      cases h
      have hc' := hρ c
      rw [hc] at hc'
      have := hc'.bool_inv
      refine ⟨if t then ρc a else ρc b, by simp [execOp, this, asBool], ?_⟩
      unfold pickA
      split
      · rename_i x y hx hy
        have h1 := hρ a; have h2 := hρ b
        rw [hx] at h1; rw [hy] at h2
        rw [h1.bool_inv, h2.bool_inv]
        cases t <;> exact .of (.bool _)
      · cases t
        · exact hρ b
        · exact hρ a
    · cases h
  | build t parts =>
    obtain ⟨v, h1, h2⟩ := build_ok (P := P) hT hρ h
    exact ⟨v, by simp [execOp, h1], h2⟩
  | nilCheck x =>
    simp only [evPure] at h
    split at h
    · rename_i id off hx
      cases h
      have h1 := hρ x
      rw [hx] at h1
      obtain ⟨b, hb, e⟩ := h1.ptr_inv
      exact ⟨_, by simp [execOp, e], .of (.ptr hb)⟩
    · rename_i f cap hx
      cases h
      have h1 := hρ x
      rw [hx] at h1
      obtain ⟨vs, e, hl⟩ := h1.fn_inv
      exact ⟨_, by simp [execOp, e], .of (.fn hl)⟩
    · cases h
  | binOp op t x y yt =>
    obtain ⟨v, h1, h2⟩ := binA_ok (P := P) hT x y h (hρ x) (hρ y)
    exact ⟨v, by simp only [execOp, Sem.run_bind] at h1 ⊢; simp [h1], .of h2.bare⟩
  | unOp op t x =>
    simp only [evPure] at h
    unfold unA at h
    split at h
    · rename_i k n hx
      cases h
      have h1 := hρ x; rw [hx] at h1
      have := h1.int_inv
      exact ⟨_, by simp [execOp, this, Op.unary, Op.intArith, isub], .of (.int _ _)⟩
    · rename_i b hx
      cases h
      have h1 := hρ x; rw [hx] at h1
      have := h1.bool_inv
      exact ⟨_, by simp [execOp, this, Op.unary], .of (.bool _)⟩
    · cases h
  | convert src dst x =>
    simp only [evPure] at h
    split at h
    · rename_i si di k n hs hd hx
      split at h
      · rename_i k1 k2 h1 h2
        cases h
        have h3 := hρ x; rw [hx] at h3
        have := h3.int_inv
        exact ⟨_, by simp [execOp, this, convert, run_underlying (und_int hT hs h1), run_underlying (und_int hT hd h2), Conv.intToInt], .of (.int _ _)⟩
      · cases h
    · cases h
  | makeFunc f first cap =>
    simp only [evPure] at h
    cases f with
    | func f =>
      simp only at h
      cases hb : first.isEmpty <;> rw [hb] at h <;> simp at h
      subst h
      have hf : first = #[] := by simpa using hb
      subst hf
      refine ⟨.func (.func f) #[] (cap.toList.map ρc).toArray, by obtain ⟨cap⟩ := cap; simp [execOp, Instr.makeFunc], .of (.fn ?_)⟩
      refine RepL.of_get (by simp) fun i c v h1 h2 => ?_
      simp only [List.getElem?_map, Option.map_eq_some_iff] at h1 h2
      obtain ⟨a, h1, rfl⟩ := h1
      obtain ⟨b, h2, rfl⟩ := h2
      rw [h1] at h2; cases h2
      exact (hρ _).share
    | _ => simp at h
  | fieldAddr t x f =>
    obtain ⟨v, h1, h2⟩ := fieldAddr_ok (P := P) hT (hρ x) h
    exact ⟨v, by simp [execOp, h1], h2⟩
  | field t x f =>
    obtain ⟨v, h1, h2⟩ := field_ok (P := P) hT (hρ x) h
    exact ⟨v, by simp [execOp, h1], h2⟩
  | indexAddr t x i =>
    obtain ⟨v, h1, h2⟩ := indexAddr_ok (P := P) hT (hρ x) (hρ i) h
    exact ⟨v, by simp [execOp, h1], h2⟩
  | index t x i =>
    obtain ⟨v, h1, h2⟩ := index_ok (P := P) hT (hρ x) (hρ i) h
    exact ⟨v, by simp [execOp, h1], h2⟩
  | slice t x lo hi mx =>
    obtain ⟨v, h1, h2⟩ := slice_ok (P := P) hT (hρ x) (repO_map hρ lo) (repO_map hρ hi) (repO_map hρ mx) h
    exact ⟨v, by simp [execOp, h1], h2⟩
  | extract x i =>
    simp only [evPure] at h
    split at h
    · rename_i vs hx
      have h1 := hρ x; rw [hx] at h1
      obtain ⟨us, e, hl⟩ := h1.tup_inv
      obtain ⟨v, h2, h3⟩ := hl.get h
      exact ⟨v, by simp [execOp, e, Instr.extract, h2], .of h3.bare⟩
    · cases h
  | call c =>
    obtain ⟨callee, args, argTypes⟩ := c
    cases callee with
    | builtin b =>
      cases b <;> simp only [evPure] at h <;> try (cases h; done)
      case len =>
        obtain ⟨args⟩ := args
        obtain ⟨argTypes⟩ := argTypes
        split at h
        · rename_i x t h1 h2
          simp at h1 h2
          subst h1; subst h2
          obtain ⟨v, h1, h2⟩ := lenA_ok (P := P) hT oty (hρ x) h
          exact ⟨v, by simp [execOp, resolve, invoke, builtin, h1], h2⟩
        · cases h
      case max =>
        obtain ⟨args⟩ := args
        split at h
        · rename_i x y h1
          simp at h1; subst h1
          unfold maxA at h
          split at h
          · rename_i k a k' b hx hy
            cases h
            have h1 := hρ x; rw [hx] at h1
            have h2 := hρ y; rw [hy] at h2
            have e1 := h1.int_inv; have e2 := h2.int_inv
            refine ⟨.int k (if b > a then b else a), by simp [execOp, resolve, invoke, builtin, Builtin.max_, Builtin.max2, e1, e2], ?_⟩
            have : (bif ilt a b then b else a) = if b > a then b else a := by
              unfold ilt; by_cases hc : a < b <;> simp [hc]
            rw [this]; exact .of (.int _ _)
          · cases h
        · cases h
      case min =>
        obtain ⟨args⟩ := args
        split at h
        · rename_i x y h1
          simp at h1; subst h1
          unfold minA at h
          split at h
          · rename_i k a k' b hx hy
            cases h
            have h1 := hρ x; rw [hx] at h1
            have h2 := hρ y; rw [hy] at h2
            have e1 := h1.int_inv; have e2 := h2.int_inv
            refine ⟨.int k (if b < a then b else a), by simp [execOp, resolve, invoke, builtin, Builtin.min_, Builtin.min2, e1, e2], ?_⟩
            have : (bif ilt b a then b else a) = if b < a then b else a := by
              unfold ilt; by_cases hc : b < a <;> simp [hc]
            rw [this]; exact .of (.int _ _)
          · cases h
        · cases h
    | value f => simp [evPure] at h
    | invoke r m => simp [evPure] at h
  | _ => simp [evPure] at h

end Go.Ev
