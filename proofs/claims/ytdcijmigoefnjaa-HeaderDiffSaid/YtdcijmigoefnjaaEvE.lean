/- The evaluator: the tables of types; operations that leave the world as it is. -/
import Derived.Test.YtdcijmigoefnjaaEvD
import Derived.Laws.StructEq
set_option linter.unusedVariables false
set_option linter.unusedSimpArgs false
namespace Go.Ev
open Go

def tdOf : TypeDesc → TD
  | .int k => .int k
  | .bool => .bool
  | .string => .str
  | .pointer e => .ptr e
  | .slice e => .slice e
  | .array n e => .arr n e
  | .struct fs => .struct (fs.toList.map fun f => (f.offset, f.type, f.name == "_"))
  | _ => .other

structure TyOk1 (P : Program) (t : TypeId) (ti : TI) : Prop where
  und : ∃ d, P.underlying t = some d ∧ tdOf d = ti.td
  info : ∃ i z, P.info? t = some i ∧ i.size = ti.size ∧ i.bytes = ti.bytes ∧ i.zero = some z ∧ z.cells.toList.map ofVal = ti.zero ∧ ∀ v ∈ z.cells.toList, oc v = true
  zlen : ti.zero.length = ti.size
  stood : P.stoodInHeld t = false
  guard : P.eqGuardType P.depth t = false

def TyOk (P : Program) (ty : Tys) : Prop := ∀ t ti, ty t = some ti → TyOk1 P t ti

section
variable {P : Program} {ty : Tys} (hT : TyOk P ty) {t : TypeId} {ti : TI} (h : ty t = some ti)
include hT h

theorem und_slice {e} (hd : ti.td = .slice e) : P.underlying t = some (.slice e) := by
  obtain ⟨d, h1, h2⟩ := (hT t ti h).und
  rw [hd] at h2
  cases d <;> simp [tdOf] at h2
  subst h2; exact h1
theorem und_arr {n e} (hd : ti.td = .arr n e) : P.underlying t = some (.array n e) := by
  obtain ⟨d, h1, h2⟩ := (hT t ti h).und
  rw [hd] at h2
  cases d <;> simp [tdOf] at h2
  obtain ⟨rfl, rfl⟩ := h2; exact h1
theorem und_int {k} (hd : ti.td = .int k) : P.underlying t = some (.int k) := by
  obtain ⟨d, h1, h2⟩ := (hT t ti h).und
  rw [hd] at h2
  cases d <;> simp [tdOf] at h2
  subst h2; exact h1
theorem und_bool (hd : ti.td = .bool) : P.underlying t = some .bool := by
  obtain ⟨d, h1, h2⟩ := (hT t ti h).und
  rw [hd] at h2
  cases d <;> simp [tdOf] at h2
  exact h1
theorem und_str (hd : ti.td = .str) : P.underlying t = some .string := by
  obtain ⟨d, h1, h2⟩ := (hT t ti h).und
  rw [hd] at h2
  cases d <;> simp [tdOf] at h2
  exact h1
theorem und_struct {fs} (hd : ti.td = .struct fs) : ∃ gs, P.underlying t = some (.struct gs) ∧ gs.toList.map (fun f => (f.offset, f.type, f.name == "_")) = fs := by
  obtain ⟨d, h1, h2⟩ := (hT t ti h).und
  rw [hd] at h2
  cases d <;> simp [tdOf] at h2
  exact ⟨_, h1, h2⟩
theorem run_size (w : World) : (sizeOf t).run P w = .ok ti.size w := by
  obtain ⟨i, z, h1, h2, _⟩ := (hT t ti h).info
  simp [sizeOf, typeInfo, h1, h2]
theorem run_isAgg (w : World) : (isAgg t).run P w = .ok ti.td.agg w := by
  obtain ⟨d, h1, h2⟩ := (hT t ti h).und
  rw [← h2]
  cases d <;> simp [isAgg, run_underlying h1, tdOf, TD.agg]
theorem run_zero (w : World) : ∃ z, (zeroValue t).run P w = .ok z w ∧ z.cells.toList.map ofVal = ti.zero ∧ ∀ v ∈ z.cells.toList, oc v = true := by
  obtain ⟨i, z, h1, _, _, h2, h3, h4⟩ := (hT t ti h).info
  exact ⟨z, by simp [zeroValue, typeInfo, h1, h2], h3, h4⟩
theorem run_info (w : World) : ∃ i, (typeInfo t).run P w = .ok i w ∧ i.size = ti.size ∧ i.bytes = ti.bytes := by
  obtain ⟨i, z, h1, h2, h3, _⟩ := (hT t ti h).info
  exact ⟨i, by simp [typeInfo, h1], h2, h3⟩
end

theorem map_ofVal {S w β} (vs : List Value) : RepL S w β (vs.map ofVal) vs := by
  induction vs with
  | nil => exact .nil
  | cons v vs ih => exact .cons (ofVal_rep v) ih

/-- a part of cells -/
theorem part_ok {P ty} (hT : TyOk P ty) {t ti} (h : ty t = some ti) {S w} {cs : List AV} {vs : List Value} (hr : RepL S w (fun _ => none) cs vs) (ho : ∀ v ∈ vs, oc v = true)
    {off : Nat} {r : AV} (hp : partA ti cs off = some r) : ∃ v, (part t vs.toArray off).run P w = .ok v w ∧ RepV S w (fun _ => none) r v ∧ (r.isAgg = false → oc v = true) := by
  unfold partA at hp
  by_cases ha : ti.td.agg
  · rw [if_pos ha] at hp
    cases hp
    refine ⟨.agg ((vs.drop off).take ti.size).toArray, ?_, ?_, by simp [AV.isAgg]⟩
    · have e : vs.toArray.extract off (off + ti.size) = ((vs.drop off).take ti.size).toArray := by
        simp [List.extract_toArray, List.extract_eq_take_drop]
      unfold part
      simp only [Sem.run_bind, run_isAgg hT h, Result.andThen_ok, ha, if_true, run_size hT h, Sem.run_pure, e]
    · refine .agg ((hr.drop off).take ti.size) fun v hv => ho v ?_
      exact List.mem_of_mem_drop (List.mem_of_mem_take hv)
  · rw [if_neg ha] at hp
    obtain ⟨v, h1, h2⟩ := hr.get hp
    refine ⟨v, ?_, h2, fun _ => ho v (List.mem_of_getElem? h1)⟩
    unfold part
    simp only [Sem.run_bind, run_isAgg hT h, Result.andThen_ok, ha, if_false, Bool.false_eq_true]
    simp [h1]

theorem toList_mk (l : List UInt8) : (ByteArray.mk l.toArray).toList = l := by
  rw [ByteArray.toList_eq]

theorem eqGo_ok {P ty} (hT : TyOk P ty) {S w} {d : Nat} {D : Nat} (ih : ∀ t x y r xv yv, eqT ty d t x y = some r → RepV S w (fun _ => none) x xv → RepV S w (fun _ => none) y yv → (Op.equalIn D t xv yv).run P w = .ok r w)
    {xs ys : List AV} {xv yv : List Value} (hx : RepL S w (fun _ => none) xs xv) (hy : RepL S w (fun _ => none) ys yv) (ox : ∀ v ∈ xv, oc v = true) (oy : ∀ v ∈ yv, oc v = true) :
    ∀ (gs : List Field) r, eqT.go ty (eqT ty d) xs ys (gs.map fun f => (f.offset, f.type, f.name == "_")) = some r → (Op.eqFields D xv.toArray yv.toArray gs).run P w = .ok r w
  | [], r, h => by simp [eqT.go] at h; subst h; simp [Op.eqFields]
  | f :: gs, r, h => by
    simp only [List.map_cons, eqT.go] at h
    by_cases hb : f.name = "_"
    · simp [hb] at h
      simp [Op.eqFields, hb]
      exact eqGo_ok hT ih hx hy ox oy gs r (by simpa using h)
    · have hb' : (f.name == "_") = false := by simpa using hb
      simp only [hb', Bool.false_eq_true, if_false] at h
      cases ht : ty f.type with
      | none => simp [ht] at h
      | some ti =>
        simp only [ht] at h
        cases h1 : partA ti xs f.offset with
        | none => simp [h1] at h
        | some a =>
          cases h2 : partA ti ys f.offset with
          | none => simp [h1, h2] at h
          | some b =>
            simp only [h1, h2] at h
            cases h3 : eqT ty d f.type a b with
            | none => simp [h3] at h
            | some q =>
              simp only [h3] at h
              cases h4 : eqT.go ty (eqT ty d) xs ys (gs.map fun f => (f.offset, f.type, f.name == "_")) with
              | none => simp [h4] at h
              | some q' =>
                simp [h4] at h
                obtain ⟨va, r1, r2, _⟩ := part_ok hT ht hx ox h1
                obtain ⟨vb, r3, r4, _⟩ := part_ok hT ht hy oy h2
                have r5 := ih _ _ _ _ _ _ h3 r2 r4
                have r6 := eqGo_ok hT ih hx hy ox oy gs q' h4
                simp only [Op.eqFields, ne_eq, hb, not_false_eq_true, if_true, Sem.run_bind, r1, r3, r5, Result.andThen_ok]
                cases q
                · simp at h; subst h; simp
                · simp at h; subst h; simp [r6]

theorem run_eqArr {P : Program} (w : World) (d : Nat) (e : TypeId) (size : Nat) (xs ys : Array Value) (q : Nat → Bool) : ∀ (l : List Nat),
    (∀ i ∈ l, ∃ a b, (part e xs (i * size)).run P w = .ok a w ∧ (part e ys (i * size)).run P w = .ok b w ∧ (Op.equalIn d e a b).run P w = .ok (q i) w) →
    (forIn l ((none : Option Bool), ()) fun i (__s : Option Bool × Unit) => do
            let a ← part e xs (i * size)
            let b ← part e ys (i * size)
            let r ← Op.equalIn d e a b
            if (!r) = true then pure (ForInStep.done (some false, ())) else pure (ForInStep.yield (none, ())) : Sem (Option Bool × Unit)).run P w = .ok (if l.all q then (none, ()) else (some false, ())) w
  | [], _ => by simp
  | i :: l, h => by
    obtain ⟨a, b, h1, h2, h3⟩ := h i (by simp)
    have ih := run_eqArr w d e size xs ys q l (fun j hj => h j (by simp [hj]))
    simp only [List.forIn_cons, Sem.run_bind, h1, h2, h3, Result.andThen_ok]
    cases hq : q i
    · simp [hq]
    · simp only [Bool.not_true, Bool.false_eq_true, if_false, Sem.run_pure, Result.andThen_ok, ih]
      simp [hq]

theorem run_equalIn_array {P : Program} (w : World) (d : Nat) (t e : TypeId) (n size : Nat) (xs ys : Array Value) (ht : P.underlying t = some (.array n e)) (hs : (sizeOf e).run P w = .ok size w)
    (q : Nat → Bool) (hq : ∀ i, i < n → ∃ a b, (part e xs (i * size)).run P w = .ok a w ∧ (part e ys (i * size)).run P w = .ok b w ∧ (Op.equalIn d e a b).run P w = .ok (q i) w) :
    (Op.equalIn (d + 1) t (.agg xs) (.agg ys)).run P w = .ok ((List.range n).all q) w := by
  simp only [Op.equalIn, Sem.run_bind, run_underlying ht, Result.andThen_ok, hs]
  simp only [Std.Legacy.Range.forIn_eq_forIn_range']
  have := run_eqArr w d e size xs ys q (List.range n) (fun i hi => hq i (List.mem_range.1 hi))
  simp only [Std.Legacy.Range.size, Nat.sub_zero, Nat.add_sub_cancel, Nat.div_one, ← List.range_eq_range', this, Result.andThen_ok]
  cases (List.range n).all q <;> simp

theorem eqGoA_ok {P ty} (hT : TyOk P ty) {S w} {d : Nat} {D : Nat} (ih : ∀ t x y r xv yv, eqT ty d t x y = some r → RepV S w (fun _ => none) x xv → RepV S w (fun _ => none) y yv → (Op.equalIn D t xv yv).run P w = .ok r w)
    {e : TypeId} {ei : TI} (he : ty e = some ei) {xs ys : List AV} {xv yv : List Value} (hx : RepL S w (fun _ => none) xs xv) (hy : RepL S w (fun _ => none) ys yv) (ox : ∀ v ∈ xv, oc v = true) (oy : ∀ v ∈ yv, oc v = true) :
    ∀ n i r, eqT.goA (eqT ty d) e ei xs ys n i = some r →
      ∃ q : Nat → Bool, (List.range' i n).all q = r ∧ ∀ j, i ≤ j → j < i + n → ∃ a b, (part e xv.toArray (j * ei.size)).run P w = .ok a w ∧ (part e yv.toArray (j * ei.size)).run P w = .ok b w ∧ (Op.equalIn D e a b).run P w = .ok (q j) w
  | 0, i, r, h => by
    simp [eqT.goA] at h
    exact ⟨fun _ => true, by simp [h], fun j h1 h2 => by omega⟩
  | n + 1, i, r, h => by
    simp only [eqT.goA] at h
    cases h1 : partA ei xs (i * ei.size) with
    | none => simp [h1] at h
    | some a =>
      cases h2 : partA ei ys (i * ei.size) with
      | none => simp [h1, h2] at h
      | some b =>
        simp only [h1, h2] at h
        cases h3 : eqT ty d e a b with
        | none => simp [h3] at h
        | some q0 =>
          simp only [h3] at h
          cases h4 : eqT.goA (eqT ty d) e ei xs ys n (i + 1) with
          | none => simp [h4] at h
          | some q' =>
            simp [h4] at h
            obtain ⟨q, hq1, hq2⟩ := eqGoA_ok hT ih he hx hy ox oy n (i + 1) q' h4
            obtain ⟨va, r1, r2, _⟩ := part_ok hT he hx ox h1
            obtain ⟨vb, r3, r4, _⟩ := part_ok hT he hy oy h2
            have r5 := ih _ _ _ _ _ _ h3 r2 r4
            refine ⟨fun j => if j = i then q0 else q j, ?_, fun j h5 h6 => ?_⟩
            · rw [List.range'_succ, List.all_cons, if_pos rfl, ← h, ← hq1]
              congr 1
              rw [Bool.eq_iff_iff, List.all_eq_true, List.all_eq_true]
              refine forall_congr' fun j => forall_congr' fun hj => ?_
              have : j ≠ i := by have := List.mem_range'_1.1 hj; omega
              simp [this]
            · by_cases hj : j = i
              · subst hj; exact ⟨va, vb, r1, r3, by simpa using r5⟩
              · obtain ⟨a, b, k1, k2, k3⟩ := hq2 j (by omega) (by omega)
                exact ⟨a, b, k1, k2, by simpa [hj] using k3⟩

theorem eqT_ok {P ty} (hT : TyOk P ty) {S w} : ∀ (d : Nat) {D : Nat}, d ≤ D → ∀ t x y r xv yv, eqT ty d t x y = some r → RepV S w (fun _ => none) x xv → RepV S w (fun _ => none) y yv →
    (Op.equalIn D t xv yv).run P w = .ok r w
  | 0, _, _, t, x, y, r, xv, yv, h, _, _ => by simp [eqT] at h
  | d + 1, D, hD, t, x, y, r, xv, yv, h, hx, hy => by
    obtain ⟨D, rfl⟩ : ∃ m, D = m + 1 := ⟨D - 1, by omega⟩
    have ih := fun t x y r xv yv => eqT_ok hT (S := S) (w := w) d (D := D) (by omega) t x y r xv yv
    unfold eqT at h
    cases ht : ty t with
    | none => simp [ht] at h
    | some ti =>
      simp only [ht] at h
      split at h
      · rename_i hd
        cases hx; cases hy
        simp at h; subst h
        exact run_equalIn_bool w D t _ _ (und_bool hT ht hd)
      · rename_i k hd
        cases hx; cases hy
        split at h
        · cases h
          rename_i e
          subst e
          exact run_equalIn_int w D t _ _ _ _ (und_int hT ht hd)
        · cases h
      · rename_i hd
        cases hx; cases hy
        simp at h; subst h
        rw [run_equalIn_string w D t _ _ (und_str hT ht hd), toList_mk, toList_mk]
      · rename_i fs xs ys hd
        cases hx with | agg lx ox =>
        cases hy with | agg ly oy =>
        obtain ⟨gs, h1, h2⟩ := und_struct hT ht hd
        have hf : P.fieldsOf t = gs := by simp [Program.fieldsOf, h1]
        rw [run_equalIn_struct w D t _ _ (by rw [hf]; exact h1) (hT t ti ht).stood, hf]
        subst h2
        exact eqGo_ok hT ih lx ly ox oy gs.toList r h
      · rename_i n e xs ys hd
        cases he : ty e with
        | none => simp [he] at h
        | some ei =>
          simp only [he] at h
          cases hx with | agg lx ox =>
          cases hy with | agg ly oy =>
          obtain ⟨q, hq1, hq2⟩ := eqGoA_ok hT ih he lx ly ox oy n 0 r h
          rw [run_equalIn_array w D t e n ei.size _ _ (und_arr hT ht hd) (run_size hT he w) q (fun i hi => hq2 i (by omega) (by omega)), ← hq1, List.range_eq_range']
      · rename_i hd
        cases h
        cases hx
        cases hy
        simp [Op.equalIn, run_underlying (und_slice hT ht hd)]
      · cases h

end Go.Ev
