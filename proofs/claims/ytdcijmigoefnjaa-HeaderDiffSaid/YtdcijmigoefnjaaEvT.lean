/- The evaluator: operations that change places (2). -/
import Derived.Test.YtdcijmigoefnjaaEvS
set_option linter.unusedVariables false
set_option linter.unusedSimpArgs false
namespace Go.Ev
open Go

def eff1 (E : Env) (ops : Array Oper) (o : Oper) (s : AS) : Option Eff :=
  match wantA ops s.tmps o with
  | some true => effOf E o (opv s.tmps) s.mem
  | some false => some { val := .tup [] }
  | none => none

theorem step1_eff {E : Env} {ops : Array Oper} {i : Nat} {o : Oper} (h : ops[i]? = some o) (s : AS) : step1 E ops i s = (eff1 E ops o s).map fun e => e.app o.dst s := by
  unfold step1 eff1 evOp
  simp only [h]
  cases wantA ops s.tmps o with
  | none => rfl
  | some b => cases b <;> rfl

theorem mem_reads {ops : Array Oper} {o : Oper} {x : Operand} (h : x ∈ o.op.operands.toList) {t : Nat} (ht : x = .tmp t) : t ∈ readsOf ops o := by
  subst ht
  simp only [readsOf, List.mem_append, List.mem_flatMap]
  exact .inl ⟨_, h, by simp [Operand.tmps]⟩

theorem eff1_congr {E : Env} {ops : Array Oper} {o : Oper} {s s' : AS} (ht : ∀ x ∈ readsOf ops o, s'.tmps[x]? = s.tmps[x]?) (hm : ∀ id ∈ keysR s.tmps o, look s'.mem id = look s.mem id) :
    eff1 E ops o s' = eff1 E ops o s ∧ keysR s'.tmps o = keysR s.tmps o ∧ keysW s'.tmps o = keysW s.tmps o := by
  have hop : ∀ x ∈ o.op.operands.toList, opv s'.tmps x = opv s.tmps x := by
    intro x hx
    cases x with
    | tmp t => simp only [opv, List.getD_eq_getElem?_getD, ht t (mem_reads hx rfl)]
    | _ => rfl
  obtain ⟨h1, h2, h3⟩ := effOf_congr (E := E) hop hm
  have hw : wantA ops s'.tmps o = wantA ops s.tmps o := by
    unfold wantA
    cases hg : o.guard with
    | none => rfl
    | some jw =>
      obtain ⟨j, want⟩ := jw
      simp only
      cases hj : (ops[j]?).bind (·.dst) with
      | none => rfl
      | some t =>
        simp only
        rw [ht t]
        simp only [readsOf, hg, List.mem_append]
        exact .inr (by simp [hj])
  exact ⟨by simp only [eff1, hw, h1], h2, h3⟩

theorem eff1_keys {E : Env} {ops : Array Oper} {o : Oper} {s : AS} {e : Eff} (h : eff1 E ops o s = some e) :
    (∀ p ∈ e.upd, p.1 ∈ keysW s.tmps o) ∧ (∀ d cs, e.ins = some (d, cs) → d ∈ keysW s.tmps o) ∧ (isAppend o = false → e.rt = none) := by
  unfold eff1 at h
  split at h
  · exact effKeys h
  · cases h; exact ⟨fun p hp => by simp at hp, fun d cs h => by simp at h, fun _ => rfl⟩
  · cases h

/-! ### effects that change places -/

def Eff.memOf (e : Eff) (m : Mem) : Mem := match e.ins with | some (d, cs) => insM (upds m e.upd) d cs | none => upds m e.upd

theorem app_mem {e : Eff} (h : e.rt = none) (dst : Option Nat) (s : AS) : (e.app dst s).mem = e.memOf s.mem := by
  obtain ⟨v, u, i, r⟩ := e
  simp only at h; subst h
  cases dst <;> cases i <;> rfl

theorem app_tmps {e : Eff} (h : e.rt = none) (dst : Option Nat) (s : AS) : (e.app dst s).tmps = match dst with | some d => s.tmps.set d e.val | none => s.tmps := by
  obtain ⟨v, u, i, r⟩ := e
  simp only at h; subst h
  cases dst <;> cases i <;> rfl

theorem AS.ext' {s t : AS} (h1 : s.tmps = t.tmps) (h2 : s.mem = t.mem) : s = t := by
  cases s; cases t; simp_all

theorem look_insM_ne (m : Mem) {d i : Nat} (cs : List AV) (h : i ≠ d) : look (insM m d cs) i = look m i := by
  induction m with
  | nil => simp [insM, look, Ne.symm h]
  | cons p r ih =>
    obtain ⟨j, c⟩ := p
    simp only [insM]
    split
    · simp [look, Ne.symm h]
    · simp only [look, ih]

theorem look_upds_ne : ∀ (l : List (Nat × List AV)) (m : Mem) {i : Nat}, (∀ p ∈ l, p.1 ≠ i) → look (upds m l) i = look m i
  | [], m, i, _ => rfl
  | p :: r, m, i, h => by
    simp only [upds]
    rw [look_upds_ne r _ (fun q hq => h q (List.mem_cons_of_mem _ hq)), look_upd, if_neg (Ne.symm (h p (by simp)))]

theorem look_memOf {e : Eff} {m : Mem} {i : Nat} (h1 : ∀ p ∈ e.upd, p.1 ≠ i) (h2 : ∀ d cs, e.ins = some (d, cs) → d ≠ i) : look (e.memOf m) i = look m i := by
  unfold Eff.memOf
  cases hi : e.ins with
  | none => exact look_upds_ne _ _ h1
  | some dc =>
    obtain ⟨d, cs⟩ := dc
    simp only
    rw [look_insM_ne _ _ (Ne.symm (h2 d cs hi)), look_upds_ne _ _ h1]

theorem upd_comm (m : Mem) {i j : Nat} (c d : List AV) (h : i ≠ j) : upd (upd m i c) j d = upd (upd m j d) i c := by
  induction m with
  | nil => rfl
  | cons p r ih =>
    obtain ⟨k, x⟩ := p
    by_cases h1 : k = i
    · subst h1
      simp [upd, h]
    · by_cases h2 : k = j
      · subst h2; simp [upd, h1]
      · simp [upd, h1, h2, ih]

theorem upds_upd : ∀ (l : List (Nat × List AV)) (m : Mem) {j : Nat} (d : List AV), (∀ p ∈ l, p.1 ≠ j) → upds (upd m j d) l = upd (upds m l) j d
  | [], m, j, d, _ => rfl
  | p :: r, m, j, d, h => by
    simp only [upds]
    rw [upd_comm _ _ _ (Ne.symm (h p (by simp))), upds_upd r _ d (fun q hq => h q (List.mem_cons_of_mem _ hq))]

theorem upds_comm : ∀ (k : List (Nat × List AV)) (l : List (Nat × List AV)) (m : Mem), (∀ p ∈ l, ∀ q ∈ k, p.1 ≠ q.1) → upds (upds m l) k = upds (upds m k) l
  | [], l, m, _ => rfl
  | q :: k, l, m, h => by
    simp only [upds]
    rw [← upds_upd l m q.2 (fun p hp => h p hp q (by simp)), upds_comm k l _ (fun p hp q' hq => h p hp q' (List.mem_cons_of_mem _ hq))]

theorem upd_insM (m : Mem) {i d : Nat} (c cs : List AV) (h : i ≠ d) : upd (insM m d cs) i c = insM (upd m i c) d cs := by
  induction m with
  | nil => simp [insM, upd, Ne.symm h]
  | cons p r ih =>
    obtain ⟨j, x⟩ := p
    by_cases h1 : j = i
    · subst h1
      by_cases h2 : d < j
      · simp [insM, upd, h2, Ne.symm h]
      · simp [insM, upd, h2]
    · by_cases h2 : d < j
      · simp [insM, upd, h1, h2, Ne.symm h]
      · simp [insM, upd, h1, h2, ih]

theorem upds_insM : ∀ (l : List (Nat × List AV)) (m : Mem) {d : Nat} (cs : List AV), (∀ p ∈ l, p.1 ≠ d) → upds (insM m d cs) l = insM (upds m l) d cs
  | [], m, d, cs, _ => rfl
  | p :: r, m, d, cs, h => by
    simp only [upds]
    rw [upd_insM _ _ _ (h p (by simp)), upds_insM r _ cs (fun q hq => h q (List.mem_cons_of_mem _ hq))]

theorem insM_comm (m : Mem) {a b : Nat} (c d : List AV) (h : a ≠ b) : insM (insM m a c) b d = insM (insM m b d) a c := by
  induction m with
  | nil =>
    simp only [insM]
    by_cases h1 : b < a
    · rw [if_pos h1, if_neg (by omega)]
    · rw [if_neg h1, if_pos (by omega)]
  | cons p r ih =>
    obtain ⟨j, x⟩ := p
    by_cases h1 : a < j
    · by_cases h2 : b < j
      · simp only [insM, if_pos h1, if_pos h2]
        by_cases h3 : b < a
        · simp only [if_pos h3, if_neg (show ¬ a < b by omega), if_pos h1]
        · simp only [if_neg h3, if_pos (show a < b by omega), if_pos h2]
      · simp only [insM, if_pos h1, if_neg h2, if_neg (show ¬ b < a by omega)]
    · by_cases h2 : b < j
      · simp only [insM, if_neg h1, if_pos h2, if_neg (show ¬ a < b by omega)]
      · simp only [insM, if_neg h1, if_neg h2, ih]

theorem memOf_comm {e f : Eff} (m : Mem) (h1 : ∀ p ∈ e.upd, ∀ q ∈ f.upd, p.1 ≠ q.1) (h2 : ∀ p ∈ e.upd, ∀ d cs, f.ins = some (d, cs) → p.1 ≠ d) (h3 : ∀ q ∈ f.upd, ∀ d cs, e.ins = some (d, cs) → q.1 ≠ d)
    (h4 : ∀ a c b d, e.ins = some (a, c) → f.ins = some (b, d) → a ≠ b) : f.memOf (e.memOf m) = e.memOf (f.memOf m) := by
  unfold Eff.memOf
  cases he : e.ins with
  | none =>
    cases hf : f.ins with
    | none => simp only; exact upds_comm _ _ _ h1
    | some bd =>
      obtain ⟨b, d⟩ := bd
      simp only
      rw [upds_insM _ _ _ (fun p hp => h2 p hp b d hf), upds_comm _ _ _ h1]
  | some ac =>
    obtain ⟨a, c⟩ := ac
    cases hf : f.ins with
    | none =>
      simp only
      rw [upds_insM _ _ _ (fun q hq => h3 q hq a c he), upds_comm _ _ _ h1]
    | some bd =>
      obtain ⟨b, d⟩ := bd
      simp only
      rw [upds_insM _ _ _ (fun q hq => h3 q hq a c he), upds_insM _ _ _ (fun p hp => h2 p hp b d hf), upds_comm _ _ _ h1, insM_comm _ _ _ (h4 a c b d he hf)]

theorem app_comm {e f : Eff} {da db : Option Nat} (s : AS) (he : e.rt = none) (hf : f.rt = none) (hd : ∀ a b, da = some a → db = some b → a ≠ b)
    (h1 : ∀ p ∈ e.upd, ∀ q ∈ f.upd, p.1 ≠ q.1) (h2 : ∀ p ∈ e.upd, ∀ d cs, f.ins = some (d, cs) → p.1 ≠ d) (h3 : ∀ q ∈ f.upd, ∀ d cs, e.ins = some (d, cs) → q.1 ≠ d)
    (h4 : ∀ a c b d, e.ins = some (a, c) → f.ins = some (b, d) → a ≠ b) : f.app db (e.app da s) = e.app da (f.app db s) := by
  apply AS.ext'
  · rw [app_tmps hf, app_tmps he, app_tmps he, app_tmps hf]
    cases da with
    | none => rfl
    | some a =>
      cases db with
      | none => rfl
      | some b => exact List.set_comm _ _ (hd a b rfl rfl)
  · rw [app_mem hf, app_mem he, app_mem he, app_mem hf]
    exact memOf_comm _ h1 h2 h3 h4

end Go.Ev
