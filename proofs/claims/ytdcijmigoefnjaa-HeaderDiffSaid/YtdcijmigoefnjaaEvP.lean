/- The evaluator: behind a call. -/
import Derived.Test.YtdcijmigoefnjaaEvO
set_option linter.unusedVariables false
set_option linter.unusedSimpArgs false
namespace Go.Ev
open Go

theorem find_zip : ∀ (ids : List Nat) (ps : List (List AV)) (i : Nat), ids.Nodup → ps.length = ids.length →
    (∀ p, (ids.zip ps).find? (fun p => p.1 == i) = some p → ∃ j : Nat, ids[j]? = some i ∧ ps[j]? = some p.2) ∧ ((ids.zip ps).find? (fun p => p.1 == i) = none → i ∉ ids)
  | [], ps, i, _, _ => ⟨fun p h => by simp at h, fun _ => by simp⟩
  | x :: ids, [], i, _, h => by simp at h
  | x :: ids, c :: ps, i, hn, hl => by
    simp only [List.nodup_cons] at hn
    obtain ⟨h1, h2⟩ := find_zip ids ps i hn.2 (by simpa using hl)
    simp only [List.zip_cons_cons, List.find?_cons]
    by_cases hx : x = i
    · subst hx
      simp only [beq_self_eq_true]
      exact ⟨fun p hp => by cases hp; exact ⟨0, rfl, rfl⟩, fun h => by cases h⟩
    · have : (x == i) = false := by simpa using hx
      simp only [this]
      refine ⟨fun p hp => ?_, fun h => ?_⟩
      · obtain ⟨j, k1, k2⟩ := h1 p hp
        exact ⟨j + 1, by simpa using k1, by simpa using k2⟩
      · simp [Ne.symm hx, h2 h]

theorem zip_fst : ∀ (ids : List Nat) (ps : List (List AV)), ps.length = ids.length → (ids.zip ps).map (·.1) = ids
  | [], ps, _ => by simp
  | x :: ids, [], h => by simp at h
  | x :: ids, c :: ps, h => by simp [zip_fst ids ps (by simpa using h)]

theorem done_inv {B G s a w} (h : Sim B G s a w) {args : List AV} {passed passed' : List (List AV)} (hl : looks s.mem (ptrIds args) = some passed) {r : AV} {v : Value} {w' : World} {S' : Nat → Nat → Prop}
    (hd : Done w G.S (βof G.β (ptrIds args)) passed r passed' v w' S') : 
    Inv B { G with S := S' } w' (upds s.mem ((ptrIds args).zip passed')) ∧ Ext G.S w S' w' := by
  obtain ⟨_, _, hnd⟩ := ptrIds_mem args
  obtain ⟨k1, k2⟩ := looks_ok hl
  have hlen : passed'.length = (ptrIds args).length := by rw [hd.len, k1]
  have hfst := zip_fst _ _ hlen
  have get : ∀ i b, βof G.β (ptrIds args) i = some b → ∃ (j id : Nat), i = 1000 + j ∧ (ptrIds args)[j]? = some id ∧ G.β id = some b := by
    intro i b hi
    unfold βof at hi
    split at hi
    · rw [Option.bind_eq_some_iff] at hi
      obtain ⟨id, h1, h2⟩ := hi
      exact ⟨i - 1000, id, by omega, h1, h2⟩
    · cases hi
  have hlook : ∀ i, look (upds s.mem ((ptrIds args).zip passed')) i = match ((ptrIds args).zip passed').find? (fun p => p.1 == i) with | some p => (look s.mem i).map (fun _ => p.2) | none => look s.mem i :=
    fun i => look_upds _ s.mem i (by rw [hfst]; exact hnd)
  have hold : ∀ b, b < w.heap.size → (∀ (j : Nat) id, (ptrIds args)[j]? = some id → G.β id ≠ some b) → w'.heap[b]? = w.heap[b]? := by
    intro b hb hne
    refine hd.old b hb fun i hi => ?_
    obtain ⟨j, id, rfl, h1, h2⟩ := get i b hi
    exact hne j id h1 h2
  have hE : Ext G.S w S' w' := by
    refine ⟨hd.sub, fun g o hs => cell_of_heap (hold g (h.inv.Slt g o hs) fun j id h1 h2 => ?_) o⟩
    exact h.inv.βS id g o h2 hs
  refine ⟨?_, hE⟩
  constructor
  · have := h.inv.size; have := hd.size; omega
  · exact hd.os.trans h.inv.os
  · exact hd.tape.trans h.inv.tape
  · exact hd.output.trans h.inv.output
  · intro b hb hw
    rw [hold b (by have := h.inv.size; omega) fun j id h1 h2 => ?_]
    · exact h.inv.old b hb hw
    · rcases h.inv.βnew id b h2 with h3 | h3
      · omega
      · exact hw h3
  · intro g o hs; exact hd.sub g o (h.inv.S0 g o hs)
  · intro g o hs
    rcases hd.new g o hs with h1 | h1
    · exact h.inv.Snew g o h1
    · exact .inr (by have := h.inv.size; omega)
  · exact hd.lt
  · exact h.inv.βinj
  · intro i b o hi hs
    rcases hd.new b o hs with h1 | h1
    · exact h.inv.βS i b o hi h1
    · have := βlt h.inv i b hi; omega
  · exact h.inv.βnew
  · intro i hi
    rw [hlook] at hi
    split at hi
    · exact h.inv.dom i (by simpa using hi)
    · exact h.inv.dom i hi
  · intro i cs hi
    rw [hlook] at hi
    cases hf : ((ptrIds args).zip passed').find? (fun p => p.1 == i) with
    | some p =>
      rw [hf] at hi
      simp only [Option.map_eq_some_iff] at hi
      obtain ⟨cs0, h1, rfl⟩ := hi
      obtain ⟨j, h2, h3⟩ := (find_zip _ _ i hnd hlen).1 p hf
      obtain ⟨b, us, t, h4, h5, h6, h7⟩ := hd.mem j _ h3
      have hb : G.β i = some b := by
        unfold βof at h4
        rw [if_pos (by omega), Nat.add_sub_cancel_left, h2] at h4
        exact h4
      refine ⟨b, us, t, hb, h5, h6.length, fun j c v hc hv => ?_, h7⟩
      obtain ⟨v', h8, h9⟩ := h6.get hc
      rw [h8] at hv; cases hv
      exact .of h9.bare
    | none =>
      rw [hf] at hi
      have hni := (find_zip _ _ i hnd hlen).2 hf
      obtain ⟨b, us, t, h1, h2, h3, h4, h5⟩ := h.inv.mem i cs hi
      refine ⟨b, us, t, h1, ?_, h3, fun j c v hc hv => (h4 j c v hc hv).mono hE (fun _ _ h => h) (fun _ _ h => h), h5⟩
      unfold Blk at h2 ⊢
      rw [hold b (Blk.lt h2) fun j id h6 h7 => ?_]
      · exact h2
      · have := h.inv.βinj _ _ _ h1 h7
        subst this
        exact hni (List.mem_of_getElem? h6)
  · intro k g e l hk
    obtain ⟨h1, h2, ⟨vs', t', h3, h4⟩, h5⟩ := h.inv.τ k g e l hk
    refine ⟨h1, h2, ⟨vs', t', ?_, h4⟩, fun o ho hs => ?_⟩
    · unfold Blk at h3 ⊢
      rw [hold g (Blk.lt h3) fun j id h6 h7 => h2 id h7]; exact h3
    · rcases hd.new g o hs with h6 | h6
      · exact h5 o ho h6
      · have := h3.lt; omega
  · exact h.inv.τinj
  · exact h.inv.β0
  · intro a ha
    by_cases h1 : a.block < w.heap.size
    · by_cases h2 : ∃ i, βof G.β (ptrIds args) i = some a.block
      · obtain ⟨i, hi⟩ := h2
        obtain ⟨j, id, rfl, h3, h4⟩ := get i _ hi
        have hj : j < passed'.length := by rw [hlen]; exact (List.getElem?_eq_some_iff.1 h3).1
        obtain ⟨b, us, t, h5, h6, _⟩ := hd.mem j _ (List.getElem?_eq_getElem hj)
        rw [hi] at h5; cases h5
        exact h6.fro rfl
      · rw [frozen_heap (hd.old _ h1 fun i hi => h2 ⟨i, hi⟩)]
        exact h.inv.fro a ha
    · exact hd.fro a (by omega)

theorem done_sim {B G s a w} (h : Sim B G s a w) {args : List AV} {passed passed' : List (List AV)} (hl : looks s.mem (ptrIds args) = some passed) {r : AV} {v : Value} {w' : World} {S' : Nat → Nat → Prop} {dst : Option Nat}
    (hd : Done w G.S (βof G.β (ptrIds args)) passed r passed' v w' S') (ht : ∀ d, dst = some d → G.τ [d] = none) :
    ∃ G', Sim B G' (Eff.app { val := r.named dst, upd := (ptrIds args).zip passed' } dst s) (a.put dst v) w' ∧ TauLe G G' (dst.map fun d => [d]) := by
  obtain ⟨hi, he⟩ := done_inv h hl hd
  have h1 : Sim B { G with S := S' } { s with mem := upds s.mem ((ptrIds args).zip passed') } a w' := h.mono hi he (fun _ _ h => h) (fun _ _ h => h)
  have eapp : Eff.app { val := r.named dst, upd := (ptrIds args).zip passed' } dst s = AS.put { s with mem := upds s.mem ((ptrIds args).zip passed') } dst (r.named dst) := rfl
  rw [eapp]
  have hres := hd.res
  unfold RepRes at hres
  split at hres
  · rename_i sz xs k
    obtain ⟨g, cap, vs, us, t, h2, rfl, h3, h4, h5, h6, h7, h8⟩ := hres
    cases dst with
    | none =>
      exact ⟨_, h1.put none (.of (.slSh cap h3 h4 h5)), TauLe.of_eq rfl _⟩
    | some d =>
      have hτ : ∀ k' e' l', G.τ k' = some (g, e', l') → k' = [d] := by
        intro k' e' l' hk
        obtain ⟨_, _, ⟨vs, t, hb, _⟩, _⟩ := h.inv.τ k' _ _ _ hk
        have := hb.lt; omega
      have hβ : ∀ i, G.β i ≠ some g := fun i hi => by have := βlt h.inv i _ hi; omega
      have h9 := h1.own (k := [d]) (g := g) (e := xs.length * sz) (l := cap * sz) (ht d rfl) (by have := h.inv.size; omega) hβ h6 h7 h8 hτ
      refine ⟨_, h9.put (some d) ?_, fun k' x hx => ?_⟩
      rotate_left
      · simp only [Gh.own] at hx
        split at hx
        · rename_i e; exact .inl (by rw [e]; rfl)
        · exact .inr (by rw [hx]; simp)
      unfold RepT AV.named
      simp only
      exact ⟨g, cap, vs, rfl, h3, h4, by simp [Gh.own], h5⟩
  · have : r.named dst = r := by
      rename_i hne
      cases r <;> try rfl
      rename_i sz xs st
      cases st <;> try rfl
      exact (hne _ _ _ rfl).elim
    rw [this]
    exact ⟨_, h1.put dst (.of hres.bare), TauLe.of_eq rfl _⟩

end Go.Ev
