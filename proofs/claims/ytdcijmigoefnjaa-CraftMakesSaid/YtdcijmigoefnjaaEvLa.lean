import Derived.Test.YtdcijmigoefnjaaEv3
import Derived.ProofKit
import Derived.OpenShut
import Derived.ChangeOld
import Derived.Below
import Derived.Carry
import Derived.SizedLaws
set_option linter.unusedVariables false
set_option linter.unusedSimpArgs false
namespace Go.Ev
open Go Go.WideShapes Go.ChangeShapes Go.RowKit
inductive Lf where
 | int (k : IntKind)
 | bool
 | str
 deriving DecidableEq
def TyA : Lf → AV → Prop
 | .int k,a => ∃ n,a = .int k n ∧ k.min ≤ n ∧ n ≤ k.max
 | .bool,a => ∃ b,a = .bool b
 | .str,a => ∃ s,a = .str s ∧ s.length ≤ maxLen
def TyL : List Lf → List AV → Prop
 | [],[] => True
 | l :: ls,a :: as => TyA l a ∧ TyL ls as
 | _,_ => False
theorem TyL.append : ∀ {ls ms : List Lf} {as bs : List AV},TyL ls as → TyL ms bs → TyL (ls ++ ms) (as ++ bs)
 | [],ms,[],bs,_,h => h
 | l :: ls,ms,a :: as,bs,h,k => ⟨h.1,TyL.append h.2 k⟩
 | [],_,_ :: _,_,h,_ => h.elim
 | _ :: _,_,[],_,h,_ => h.elim
theorem TyL.length : ∀ {ls : List Lf} {as : List AV},TyL ls as → as.length = ls.length
 | [],[],_ => rfl
 | l :: ls,a :: as,h => by simp [TyL.length h.2]
 | [],_ :: _,h => h.elim
 | _ :: _,[],h => h.elim
def fieldsL (P : Program) (rec : TypeId → Option (List Lf)) : Nat → List Field → Option (List Lf)
 | _,[] => some []
 | off,f :: fs =>
  match rec f.type with
  | none => none
  | some l => if f.offset = off ∧ P.cellsOf f.type = l.length then (fieldsL P rec (off + l.length) fs).map (l ++ ·) else none
def repL {α : Type} : Nat → List α → List α
 | 0,_ => []
 | n + 1,l => l ++ repL n l
def lvs (P : Program) : Nat → TypeId → Option (List Lf)
 | 0,_ => none
 | d + 1,t =>
  match P.underlying t with
  | some (.int k) => some [.int k]
  | some .bool => some [.bool]
  | some .string => some [.str]
  | some (.struct fs) => (fieldsL P (lvs P d) 0 fs.toList).bind fun l => if P.cellsOf t = l.length then some l else none
  | some (.array n e) =>
   match lvs P d e with
   | none => none
   | some l => if P.cellsOf e = l.length ∧ P.cellsOf t = n * l.length then some (repL n l) else none
  | _ => none
section
variable {H : Type} {enc : TypeId × Value → H} {P : Program} {w : World} {base : Nat} {spare : Nat → Bool} {held : Bool} {S : Nat → Nat → Prop} {ws : World}
theorem wf_int {k : IntKind} {n : Int} (h : (Lit.int k n).wf = true) : k.min ≤ n ∧ n ≤ k.max := by
 simp only [Lit.wf,Bool.and_eq_true,decide_eq_true_eq] at h
 exact h
theorem read_ok : ∀ (d fuel : Nat) (t : TypeId) (cs : List Value) (x : DataW H × List MemPlace) (ls : List Lf),DataW.trod enc P w base spare held fuel t cs = some x → lvs P d t = some ls →
  ∃ as,TyL ls as ∧ RepL S ws (fun _ => none) as cs ∧ ∀ v ∈ cs,oc v = true := by
 intro d
 induction d with
 | zero => intro fuel t cs x ls _ h; cases h
 | succ d ih =>
  intro fuel t cs x ls h hl
  simp only [lvs] at hl
  cases hu : P.underlying t with
  | none => simp [hu] at hl
  | some u =>
  simp only [hu] at hl
  cases u <;> try (cases hl; done)
  case bool =>
   cases hl
   obtain ⟨b,rfl,_⟩ := DataW.trod_bool hu h
   exact ⟨[.bool b],⟨⟨b,rfl⟩,trivial⟩,.cons (.bool b) .nil,by simp [oc]⟩
  case int k =>
   cases hl
   obtain ⟨n,rfl,_,hw⟩ := DataW.trod_int hu h
   exact ⟨[.int k n],⟨⟨n,rfl,(wf_int hw).1,(wf_int hw).2⟩,trivial⟩,.cons (.int k n) .nil,by simp [oc]⟩
  case string =>
   cases hl
   obtain ⟨s,rfl,_,hw⟩ := DataW.trod_string hu h
   have e : s = ⟨s.data.toList.toArray⟩ := by cases s; rfl
   refine ⟨[.str s.data.toList],⟨⟨_,rfl,by rw [Array.length_toList]; exact hw⟩,trivial⟩,.cons ?_ .nil,by simp [oc]⟩
   have := RepV.str (S := S) (w := ws) (β := fun _ => none) s.data.toList
   rwa [← e] at this
  case struct fs =>
   obtain ⟨xs,m,rfl,rfl,hlen,hxl,hf⟩ := DataW.trod_struct hu h
   cases hg : fieldsL P (lvs P d) 0 fs.toList with
   | none => simp [hg] at hl
   | some l =>
   simp only [hg,Option.bind_some] at hl
   split at hl
   rotate_left
   ·cases hl
   rename_i hsz
   cases hl
   have go : ∀ (gs : List Field) (i off : Nat) (ls : List Lf),(∀ j,gs[j]? = fs.toList[i + j]?) → fieldsL P (lvs P d) off gs = some ls → off + ls.length = cs.length →
     ∃ as,TyL ls as ∧ RepL S ws (fun _ => none) as (cs.drop off) ∧ ∀ v ∈ cs.drop off,oc v = true := by
    intro gs
    induction gs with
    | nil =>
     intro i off ls _ hgo htot
     cases hgo
     have : cs.drop off = [] := List.drop_eq_nil_of_le (by simp at htot; omega)
     rw [this]
     exact ⟨[],trivial,.nil,by simp⟩
    | cons g gs ihg =>
     intro i off ls hgs hgo htot
     simp only [fieldsL] at hgo
     cases h1 : lvs P d g.type with
     | none => simp [h1] at hgo
     | some l1 =>
     simp only [h1] at hgo
     split at hgo
     rotate_left
     ·cases hgo
     rename_i ho
     obtain ⟨l2,h2,rfl⟩ := Option.map_eq_some_iff.1 hgo
     have hfi : fs[i]? = some g := by have := hgs 0; simpa using this.symm
     have hi : i < fs.size := (Array.getElem?_eq_some_iff.1 hfi).1
     have hx : ∃ y,xs[i]? = some y := ⟨xs[i]'(by omega),by simp⟩
     obtain ⟨y,hy⟩ := hx
     have hr := hf i g hfi
     rw [hy,ho.1,ho.2] at hr
     obtain ⟨a1,k1,k2,k3⟩ := ih m g.type _ y l1 hr h1
     obtain ⟨a2,k4,k5,k6⟩ := ihg (i + 1) (off + l1.length) l2 (fun j => by have := hgs (j + 1); simpa [Nat.add_assoc,Nat.add_comm 1 j] using this) h2 (by simp at htot; omega)
     have e : cs.drop off = (cs.drop off).take l1.length ++ cs.drop (off + l1.length) := by
      rw [← List.drop_drop,List.take_append_drop]
     rw [e]
     refine ⟨a1 ++ a2,k1.append k4,k2.append k5,fun v hv => ?_⟩
     rcases List.mem_append.1 hv with hv | hv
     ·exact k3 v hv
     ·exact k6 v hv
   have := go fs.toList 0 0 ls (fun j => by simp) hg (by omega)
   simpa using this
  case array n e =>
   obtain ⟨xs,m,rfl,rfl,hlen,hxl,hf⟩ := DataW.trod_array hu h
   cases h1 : lvs P d e with
   | none => simp [h1] at hl
   | some l =>
   simp only [h1] at hl
   split at hl
   rotate_left
   ·cases hl
   rename_i hsz
   cases hl
   have go : ∀ (k i : Nat),i + k = n → ∃ as,TyL (repL k l) as ∧ RepL S ws (fun _ => none) as (cs.drop (i * l.length)) ∧ ∀ v ∈ cs.drop (i * l.length),oc v = true := by
    intro k
    induction k with
    | zero =>
     intro i hi
     have hi : i = n := by omega
     subst hi
     have : cs.drop (i * l.length) = [] := List.drop_eq_nil_of_le (by omega)
     rw [this]
     exact ⟨[],trivial,.nil,by simp⟩
    | succ k ihk =>
     intro i hi
     have hx : ∃ y,xs[i]? = some y := ⟨xs[i]'(by omega),by simp⟩
     obtain ⟨y,hy⟩ := hx
     have hr := hf i (by omega)
     rw [hy,hsz.1] at hr
     obtain ⟨a1,k1,k2,k3⟩ := ih m e _ y l hr h1
     obtain ⟨a2,k4,k5,k6⟩ := ihk (i + 1) (by omega)
     have e2 : cs.drop (i * l.length) = (cs.drop (i * l.length)).take l.length ++ cs.drop ((i + 1) * l.length) := by
      rw [Nat.succ_mul,← List.drop_drop,List.take_append_drop]
     rw [e2]
     refine ⟨a1 ++ a2,k1.append k4,k2.append k5,fun v hv => ?_⟩
     rcases List.mem_append.1 hv with hv | hv
     ·exact k3 v hv
     ·exact k6 v hv
   have := go n 0 (by omega)
   simpa using this
theorem open_aggA {d : Nat} {t : TypeId} {v : Value} {dd : DataW H} {ps : List MemPlace} {ls : List Lf} (h : DataW.Trod enc P w base spare held t v dd ps) (hl : lvs P d t = some ls) (ha : ∃ cs,v = .agg cs) :
  ∃ as,TyL ls as ∧ RepV S ws (fun _ => none) (.agg as) v := by
 obtain ⟨cs,rfl⟩ := ha
 obtain ⟨fuel,hf⟩ := h
 obtain ⟨as,h1,h2,h3⟩ := read_ok (S := S) (ws := ws) d fuel t _ _ ls hf hl
 have := RepV.agg (β := fun _ => none) h2 h3
 exact ⟨as,h1,by simpa [Value.cells] using this⟩
def AllS (w : World) : Nat → Nat → Prop := fun g o => g < w.heap.size ∧ (w.cell? ⟨g,o,none⟩).isSome = true
theorem TyA.one {l : Lf} {a : AV} (h : TyA l a) : a.isAgg = false := by
 cases l with
 | int k => obtain ⟨n,rfl,_⟩ := h; rfl
 | bool => obtain ⟨n,rfl⟩ := h; rfl
 | str => obtain ⟨n,rfl,_⟩ := h; rfl
end
theorem CallsA.below {P : Program} {f : FuncId} {args : List AV} (h : CallsA P f args [] (.bool true) []) {w : World} {vs : List Value} (hr : RepL (AllS w) w (fun _ => none) args vs) :
  Calls P f vs.toArray w fun e w' => e = .returned (.bool true) ∧ Below w.heap.size w w' := by
 have hp : Pass w (AllS w) (fun _ => none) [] :=
  ⟨fun g o h => h.1,fun i j b h => (by cases h),fun i b o h => (by cases h),fun i b h => (by cases h),fun j cs h => (by simp at h)⟩
 refine (h.2 w (AllS w) (fun _ => none) vs hp hr).mono ?_
 rintro e w' ⟨v,S',rfl,hd⟩
 have hv : v = .bool true := by
  have := hd.res
  unfold RepRes at this
  cases this; rfl
 subst hv
 exact ⟨rfl,hd.os,hd.tape,hd.output,hd.size,fun i hi => hd.old i hi fun j hj => by cases hj⟩
end Go.Ev
