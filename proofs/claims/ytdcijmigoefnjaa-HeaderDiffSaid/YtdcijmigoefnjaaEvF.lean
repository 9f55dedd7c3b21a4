/- The evaluator: operations that leave the world as it is are sound. -/
import Derived.Test.YtdcijmigoefnjaaEvE
set_option linter.unusedVariables false
set_option linter.unusedSimpArgs false
namespace Go.Ev
open Go

theorem RepT.int_inv {G w k n v} (h : RepT G w (.int k n) v) : v = .int k n := by
  unfold RepT at h; cases h; rfl
theorem RepT.bool_inv {G w b v} (h : RepT G w (.bool b) v) : v = .bool b := by
  unfold RepT at h; cases h; rfl
theorem RepT.str_inv {G w s v} (h : RepT G w (.str s) v) : v = .string ⟨s.toArray⟩ := by
  unfold RepT at h; cases h; rfl
theorem RepT.agg_inv {G w cs v} (h : RepT G w (.agg cs) v) : ∃ vs : List Value, v = .agg vs.toArray ∧ RepL G.S w (fun _ => none) cs vs ∧ ∀ v ∈ vs, oc v = true := by
  unfold RepT at h; cases h with | agg l o => exact ⟨_, rfl, l, o⟩
theorem RepT.tup_inv {G w cs v} (h : RepT G w (.tup cs) v) : ∃ vs : List Value, v = .tuple vs.toArray ∧ RepL G.S w (fun _ => none) cs vs := by
  unfold RepT at h; cases h with | tup l => exact ⟨_, rfl, l⟩
theorem RepT.ptr_inv {G w id off v} (h : RepT G w (.ptr id off) v) : ∃ b, G.β id = some b ∧ v = .pointer (some ⟨b, off, none⟩) := by
  unfold RepT at h; cases h with | ptr e => exact ⟨_, e, rfl⟩
theorem RepT.view_inv {G w id off n v} (h : RepT G w (.view id off n) v) : ∃ b cap, G.β id = some b ∧ v = .slice (some ⟨b, off, none⟩) n cap ∧ n ≤ cap := by
  unfold RepT at h; cases h with | view cap e l => exact ⟨_, cap, e, rfl, l⟩
theorem RepT.ro_inv {G w e v} (h : RepT G w (.ro e) v) : ∃ a vs, v = .pointer (some a) ∧ RepC G.S w e vs ∧ Rd G.S w a vs := by
  unfold RepT at h; cases h with | ro c r => exact ⟨_, _, rfl, c, r⟩
theorem RepT.fn_inv {G w f cap v} (h : RepT G w (.fn f cap) v) : ∃ vs : List Value, v = .func (.func f) #[] vs.toArray ∧ RepL G.S w G.β cap vs := by
  unfold RepT at h; cases h with | fn l => exact ⟨_, rfl, l⟩

/-- a list: its address, its cells -/
theorem RepT.sl_inv {G w sz xs st v} (h : RepT G w (.sl sz xs st) v) : ∃ a cap, v = .slice a xs.length cap ∧ xs.length ≤ cap ∧ (st = .nil → a = none ∧ xs = [] ∧ cap = 0) ∧ (st = .full → cap = xs.length) ∧
    (st ≠ .nil → (∃ ad vs, a = some ad ∧ RepR G.S w sz xs vs ∧ Rd G.S w ad vs) ∨ (a = none ∧ xs = [] ∧ cap = 0 ∧ (st = .sh ∨ st = .full))) := by
  unfold RepT at h
  split at h
  · obtain ⟨g, cap, vs, rfl, hr, hd, ht, hl⟩ := h
    rename_i e
    cases e
    exact ⟨_, cap, rfl, hl, by simp, by simp, fun _ => .inl ⟨_, vs, rfl, hr, hd⟩⟩
  · cases h with
    | slNil => exact ⟨none, 0, rfl, by simp, fun _ => ⟨rfl, rfl, rfl⟩, by simp, by simp⟩
    | slFull c r => exact ⟨_, _, rfl, Nat.le_refl _, by simp, fun _ => rfl, fun _ => .inl ⟨_, _, rfl, c, r⟩⟩
    | slSh cap c r l => exact ⟨_, cap, rfl, l, by simp, by simp, fun _ => .inl ⟨_, _, rfl, c, r⟩⟩
    | slFullNil => exact ⟨none, 0, rfl, by simp, by simp, by simp, fun _ => .inr ⟨rfl, rfl, rfl, .inr rfl⟩⟩
    | slShNil => exact ⟨none, 0, rfl, by simp, by simp, by simp, fun _ => .inr ⟨rfl, rfl, rfl, .inl rfl⟩⟩

theorem intOp_ok {op k a b r} (h : intOp op k a b = some r) (t : TypeId) (P : Program) (w : World) {S β} : ∃ v, (binOp op t (.int k a) (.int k b)).run P w = .ok v w ∧ RepV S w β r v := by
  cases op <;> simp [intOp] at h
  case add => subst h; exact ⟨_, by rw [binOp_add]; rfl, .int _ _⟩
  case sub => subst h; exact ⟨_, by rw [binOp_sub]; rfl, .int _ _⟩
  case mul => subst h; exact ⟨_, by rw [binOp_mul]; rfl, .int _ _⟩
  case quo =>
    cases hb : ieq b 0
    · rw [hb] at h; simp at h; subst h
      have hb' : ¬ b = 0 := by simpa [ieq] using hb
      exact ⟨_, by rw [binOp_quo]; unfold Op.intDiv; rw [if_neg hb']; rfl, .int _ _⟩
    · rw [hb] at h; simp at h
  case rem =>
    cases hb : ieq b 0
    · rw [hb] at h; simp at h; subst h
      have hb' : ¬ b = 0 := by simpa [ieq] using hb
      exact ⟨_, by rw [binOp_rem]; unfold Op.intDiv; rw [if_neg hb']; rfl, .int _ _⟩
    · rw [hb] at h; simp at h
  case and => subst h; exact ⟨_, by rw [binOp_and, ibits_eq]; rfl, .int _ _⟩
  case or => subst h; exact ⟨_, by rw [binOp_or, ibits_eq]; rfl, .int _ _⟩
  case xor => subst h; exact ⟨_, by rw [binOp_xor, ibits_eq]; rfl, .int _ _⟩
  case andNot => subst h; exact ⟨_, by rw [binOp_andNot, ibits_eq]; rfl, .int _ _⟩
  case eql => subst h; exact ⟨_, by rw [binOp_eql]; rfl, .bool _⟩
  case neq => subst h; exact ⟨_, by rw [binOp_neq]; rfl, .bool _⟩
  case lss => subst h; exact ⟨_, by rw [binOp_lss]; rfl, .bool _⟩
  case leq => subst h; exact ⟨_, by rw [binOp_leq]; rfl, .bool _⟩
  case gtr => subst h; exact ⟨_, by rw [binOp_gtr]; rfl, .bool _⟩
  case geq => subst h; exact ⟨_, by rw [binOp_geq]; rfl, .bool _⟩

theorem strOp_ok {op a b r} (h : strOp op a b = some r) (t : TypeId) (P : Program) (w : World) {S β} : ∃ v, (binOp op t (.string ⟨a.toArray⟩) (.string ⟨b.toArray⟩)).run P w = .ok v w ∧ RepV S w β r v := by
  cases op <;> simp [strOp] at h
  case add =>
    cases hb : ile ((a.length : Int) + (b.length : Int)) 9223372036854775807
    · rw [hb] at h; simp at h
    · rw [hb] at h; simp at h; subst h
      have hb' : ((a.length : Int) + (b.length : Int)) ≤ 9223372036854775807 := by simpa [ile] using hb
      have hs1 : (ByteArray.mk a.toArray).size = a.length := by simp [ByteArray.size]
      have hs2 : (ByteArray.mk b.toArray).size = b.length := by simp [ByteArray.size]
      have hm : IntKind.i64.max = 9223372036854775807 := by decide
      refine ⟨.string ⟨(a ++ b).toArray⟩, ?_, .str _⟩
      have he : (ByteArray.mk a.toArray ++ ByteArray.mk b.toArray) = ByteArray.mk (a ++ b).toArray := by
        ext1; simp
      simp only [binOp, Op.stringOp, hs1, hs2, hm]
      rw [if_neg (by push_cast; omega), he]
      simp
  case eql => subst h; exact ⟨.bool (a == b), by simp [binOp, Op.stringOp, toList_mk], .bool _⟩
  case neq => subst h; exact ⟨.bool (!(a == b)), by simp [binOp, Op.stringOp, toList_mk], .bool _⟩

theorem eq_run {P ty} (hT : TyOk P ty) {S w t x y q va vb} (op : BinOp) (ox oy : Operand) (h : eqT ty 50 t x y = some q) (hx : RepV S w (fun _ => none) x va) (hy : RepV S w (fun _ => none) y vb)
    (hi : ∀ k n k' n', x = .int k n → y = .int k' n' → False) (hs : ∀ a b, x = .str a → y = .str b → False) :
    (eqGuard op t ox oy va vb).run P w = .ok () w ∧ (binOp .eql t va vb).run P w = .ok (.bool q) w ∧ (binOp .neq t va vb).run P w = .ok (.bool (!q)) w := by
  have E := eqT_ok hT 50 (D := 10000) (by omega) _ _ _ _ _ _ h hx hy
  unfold eqT at h
  cases ht : ty t with
  | none => simp [ht] at h
  | some ti =>
    simp only [ht] at h
    split at h
    · cases hx; cases hy
      exact ⟨by rw [eqGuard_at_bool]; rfl, by simp [binOp, Op.equal, Op.maxDepth, E], by simp [binOp, Op.equal, Op.maxDepth, E]⟩
    · exact (hi _ _ _ _ rfl rfl).elim
    · exact (hs _ _ rfl rfl).elim
    · cases hx; cases hy
      exact ⟨run_eqGuard_agg w op t ox oy _ _ (hT t ti ht).guard, by rw [run_eql_struct, E]; rfl, by rw [run_neq_struct, E]; rfl⟩
    · cases hx; cases hy
      exact ⟨run_eqGuard_agg w op t ox oy _ _ (hT t ti ht).guard, by rw [run_eql_struct, E]; rfl, by rw [run_neq_struct, E]; rfl⟩
    · cases hx
      cases hy
      exact ⟨by rw [eqGuard_at_slice]; rfl, by simp [binOp, Op.equal, Op.maxDepth, E], by simp [binOp, Op.equal, Op.maxDepth, E]⟩
    · cases h

theorem flat_int {a k n} (h : AV.flat a = .int k n) : a = .int k n := by
  cases a <;> simp [AV.flat] at h ⊢
  · exact h
  · rename_i st; cases st <;> simp at h
  · rename_i c; cases c <;> simp at h
theorem flat_str {a s} (h : AV.flat a = .str s) : a = .str s := by
  cases a <;> simp [AV.flat] at h ⊢
  · exact h
  · rename_i st; cases st <;> simp at h
  · rename_i c; cases c <;> simp at h

theorem binA_ok {P ty} (hT : TyOk P ty) {G w op t a b r va vb} (ox oy : Operand) (h : binA ty op t a b = some r) (ha : RepT G w a va) (hb : RepT G w b vb) :
    ∃ v, (do eqGuard op t ox oy va vb; binOp op t va vb : Sem Value).run P w = .ok v w ∧ RepV G.S w (fun _ => none) r v := by
  unfold binA at h
  split at h
  · have := ha.int_inv; have := hb.int_inv; subst va vb
    rename_i k a yk b
    cases hy : ile 0 b <;> rw [hy] at h <;> simp at h
    subst h
    have hy' : ¬ b < 0 := by
      have : 0 ≤ b := by simpa [ile] using hy
      omega
    exact ⟨_, by rw [eqGuard_at_int, binOp_shl]; simp [Op.shift, hy']; rfl, .int _ _⟩
  · have := ha.int_inv; have := hb.int_inv; subst va vb
    rename_i k a yk b
    cases hy : ile 0 b <;> rw [hy] at h <;> simp at h
    subst h
    have hy' : ¬ b < 0 := by
      have : 0 ≤ b := by simpa [ile] using hy
      omega
    exact ⟨_, by rw [eqGuard_at_int, binOp_shr]; simp [Op.shift, hy']; rfl, .int _ _⟩
  · have := ha.int_inv; have := hb.int_inv; subst va vb
    split at h
    · rename_i e; subst e
      obtain ⟨v, h1, h2⟩ := intOp_ok h t P w (S := G.S) (β := fun _ => none)
      exact ⟨v, by rw [eqGuard_at_int]; simpa using h1, h2⟩
    · cases h
  · have := ha.str_inv; have := hb.str_inv; subst va vb
    obtain ⟨v, h1, h2⟩ := strOp_ok h t P w (S := G.S) (β := fun _ => none)
    exact ⟨v, by rw [eqGuard_at_string]; simpa using h1, h2⟩
  · rename_i hni hns
    simp only [Option.map_eq_some_iff] at h
    obtain ⟨q, h, rfl⟩ := h
    obtain ⟨h1, h2, h3⟩ := eq_run hT .eql ox oy h ha.flat hb.flat (fun k n k' n' e1 e2 => hni _ _ _ _ (flat_int e1) (flat_int e2)) (fun a b e1 e2 => hns _ _ (flat_str e1) (flat_str e2))
    exact ⟨_, by simp [h1, h2], .bool _⟩
  · rename_i hni hns
    simp only [Option.map_eq_some_iff] at h
    obtain ⟨q, h, rfl⟩ := h
    obtain ⟨h1, h2, h3⟩ := eq_run hT .neq ox oy h ha.flat hb.flat (fun k n k' n' e1 e2 => hni _ _ _ _ (flat_int e1) (flat_int e2)) (fun a b e1 e2 => hns _ _ (flat_str e1) (flat_str e2))
    exact ⟨_, by simp [h1, h3], .bool _⟩
  · cases h

end Go.Ev
