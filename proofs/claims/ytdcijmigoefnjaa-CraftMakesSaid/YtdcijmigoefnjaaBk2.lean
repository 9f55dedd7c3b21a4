import Derived.Test.YtdcijmigoefnjaaChecked
import Derived.Test.YtdcijmigoefnjaaEv3
import Derived.KernelRfl
import Derived.Eval
namespace Go.Proofs.Ytdcijmigoefnjaa
open Go Go.Ev
set_option maxRecDepth 100000 in
def tyTab : TT :=
 (.node (.node (.node (.node (.node (.node .leaf 2 ⟨(.int .i64),1,8,[(.int .i64 0)]⟩ .leaf) 3 ⟨(.int .i64),1,8,[(.int .i64 0)]⟩ (.node .leaf 4 ⟨.bool,1,1,[(.bool false)]⟩ .leaf)) 5 ⟨(.int .u8),1,1,[(.int .u8 0)]⟩ (.node (.node .leaf 6 ⟨(.int .u8),1,1,[(.int .u8 0)]⟩ .leaf) 7 ⟨(.struct [(0,2,false),(1,3,false),(2,4,false),(3,6,false)]),4,24,[(.int .i64 0),(.int .i64 0),(.bool false),(.int .u8 0)]⟩ (.node .leaf 8 ⟨(.struct [(0,2,false),(1,3,false),(2,4,false),(3,6,false)]),4,24,[(.int .i64 0),(.int .i64 0),(.bool false),(.int .u8 0)]⟩ .leaf))) 9 ⟨.str,1,16,[(.str [])]⟩ (.node (.node (.node .leaf 10 ⟨.str,1,16,[(.str [])]⟩ .leaf) 11 ⟨.str,1,16,[(.str [])]⟩ (.node .leaf 12 ⟨(.int .u64),1,8,[(.int .u64 0)]⟩ .leaf)) 15 ⟨(.ptr 173),1,8,[.nilp]⟩ (.node (.node .leaf 16 ⟨(.ptr 176),1,8,[.nilp]⟩ .leaf) 17 ⟨(.ptr 185),1,8,[.nilp]⟩ (.node .leaf 20 ⟨.other,1,16,[.niliface]⟩ .leaf)))) 21 ⟨(.int .i32),1,4,[(.int .i32 0)]⟩ (.node (.node (.node (.node .leaf 28 ⟨(.slice 32),1,24,[(.sl 0 [] .nil)]⟩ .leaf) 30 ⟨(.slice 36),1,24,[(.sl 0 [] .nil)]⟩ (.node .leaf 31 ⟨(.struct [(0,3,false),(1,30,false)]),2,32,[(.int .i64 0),(.sl 0 [] .nil)]⟩ .leaf)) 32 ⟨(.struct [(0,3,false),(1,30,false)]),2,32,[(.int .i64 0),(.sl 0 [] .nil)]⟩ (.node (.node .leaf 34 ⟨(.int .u64),1,8,[(.int .u64 0)]⟩ .leaf) 35 ⟨(.struct [(0,34,false),(1,34,false)]),2,16,[(.int .u64 0),(.int .u64 0)]⟩ (.node .leaf 36 ⟨(.struct [(0,34,false),(1,34,false)]),2,16,[(.int .u64 0),(.int .u64 0)]⟩ .leaf))) 38 ⟨(.arr 24 36),48,384,(z0 48)⟩ (.node (.node (.node .leaf 39 ⟨(.arr 24 36),48,384,(z0 48)⟩ .leaf) 45 ⟨(.slice 3),1,24,[(.sl 0 [] .nil)]⟩ (.node .leaf 52 ⟨(.slice 5),1,24,[(.sl 0 [] .nil)]⟩ .leaf)) 53 ⟨(.int .i64),1,8,[(.int .i64 0)]⟩ (.node (.node .leaf 59 ⟨(.struct [(0,3,false),(1,4,false),(2,36,false),(4,36,false)]),6,48,[(.int .i64 0),(.bool false),(.int .u64 0),(.int .u64 0),(.int .u64 0),(.int .u64 0)]⟩ .leaf) 60 ⟨(.struct [(0,3,false),(1,4,false),(2,36,false),(4,36,false)]),6,48,[(.int .i64 0),(.bool false),(.int .u64 0),(.int .u64 0),(.int .u64 0),(.int .u64 0)]⟩ (.node .leaf 61 ⟨(.struct [(0,4,false),(1,3,false),(2,3,false)]),3,24,[(.bool false),(.int .i64 0),(.int .i64 0)]⟩ .leaf))))) 62 ⟨(.struct [(0,4,false),(1,3,false),(2,3,false)]),3,24,[(.bool false),(.int .i64 0),(.int .i64 0)]⟩ (.node (.node (.node (.node (.node .leaf 67 ⟨(.struct [(0,36,false),(2,36,false)]),4,32,[(.int .u64 0),(.int .u64 0),(.int .u64 0),(.int .u64 0)]⟩ .leaf) 68 ⟨(.struct [(0,36,false),(2,36,false)]),4,32,[(.int .u64 0),(.int .u64 0),(.int .u64 0),(.int .u64 0)]⟩ (.node .leaf 74 ⟨(.int .u16),1,2,[(.int .u16 0)]⟩ .leaf)) 76 ⟨(.int .u64),1,8,[(.int .u64 0)]⟩ (.node (.node .leaf 84 ⟨(.slice 60),1,24,[(.sl 0 [] .nil)]⟩ .leaf) 85 ⟨(.arr 24 68),96,768,(z0 96)⟩ (.node .leaf 86 ⟨(.arr 24 68),96,768,(z0 96)⟩ .leaf))) 100 ⟨(.struct [(0,9,false),(1,3,false),(2,3,false),(3,4,false)]),4,40,[(.str []),(.int .i64 0),(.int .i64 0),(.bool false)]⟩ (.node (.node (.node .leaf 101 ⟨(.struct [(0,9,false),(1,3,false),(2,3,false),(3,4,false)]),4,40,[(.str []),(.int .i64 0),(.int .i64 0),(.bool false)]⟩ .leaf) 102 ⟨(.arr 24 101),96,960,[(.str []),(.int .i64 0),(.int .i64 0),(.bool false),(.str []),(.int .i64 0),(.int .i64 0),(.bool false),(.str []),(.int .i64 0),(.int .i64 0),(.bool false),(.str []),(.int .i64 0),(.int .i64 0),(.bool false),(.str []),(.int .i64 0),(.int .i64 0),(.bool false),(.str []),(.int .i64 0),(.int .i64 0),(.bool false),(.str []),(.int .i64 0),(.int .i64 0),(.bool false),(.str []),(.int .i64 0),(.int .i64 0),(.bool false),(.str []),(.int .i64 0),(.int .i64 0),(.bool false),(.str []),(.int .i64 0),(.int .i64 0),(.bool false),(.str []),(.int .i64 0),(.int .i64 0),(.bool false),(.str []),(.int .i64 0),(.int .i64 0),(.bool false),(.str []),(.int .i64 0),(.int .i64 0),(.bool false),(.str []),(.int .i64 0),(.int .i64 0),(.bool false),(.str []),(.int .i64 0),(.int .i64 0),(.bool false),(.str []),(.int .i64 0),(.int .i64 0),(.bool false),(.str []),(.int .i64 0),(.int .i64 0),(.bool false),(.str []),(.int .i64 0),(.int .i64 0),(.bool false),(.str []),(.int .i64 0),(.int .i64 0),(.bool false),(.str []),(.int .i64 0),(.int .i64 0),(.bool false),(.str []),(.int .i64 0),(.int .i64 0),(.bool false),(.str []),(.int .i64 0),(.int .i64 0),(.bool false),(.str []),(.int .i64 0),(.int .i64 0),(.bool false),(.str []),(.int .i64 0),(.int .i64 0),(.bool false)]⟩ (.node .leaf 107 ⟨(.slice 34),1,24,[(.sl 0 [] .nil)]⟩ .leaf)) 117 ⟨(.int .i64),1,8,[(.int .i64 0)]⟩ (.node (.node .leaf 123 ⟨(.ptr 125),1,8,[.nilp]⟩ .leaf) 124 ⟨(.struct [(0,39,false),(48,52,false)]),49,408,[(.int .u64 0),(.int .u64 0),(.int .u64 0),(.int .u64 0),(.int .u64 0),(.int .u64 0),(.int .u64 0),(.int .u64 0),(.int .u64 0),(.int .u64 0),(.int .u64 0),(.int .u64 0),(.int .u64 0),(.int .u64 0),(.int .u64 0),(.int .u64 0),(.int .u64 0),(.int .u64 0),(.int .u64 0),(.int .u64 0),(.int .u64 0),(.int .u64 0),(.int .u64 0),(.int .u64 0),(.int .u64 0),(.int .u64 0),(.int .u64 0),(.int .u64 0),(.int .u64 0),(.int .u64 0),(.int .u64 0),(.int .u64 0),(.int .u64 0),(.int .u64 0),(.int .u64 0),(.int .u64 0),(.int .u64 0),(.int .u64 0),(.int .u64 0),(.int .u64 0),(.int .u64 0),(.int .u64 0),(.int .u64 0),(.int .u64 0),(.int .u64 0),(.int .u64 0),(.int .u64 0),(.int .u64 0),(.sl 0 [] .nil)]⟩ (.node .leaf 125 ⟨(.struct [(0,39,false),(48,52,false)]),49,408,[(.int .u64 0),(.int .u64 0),(.int .u64 0),(.int .u64 0),(.int .u64 0),(.int .u64 0),(.int .u64 0),(.int .u64 0),(.int .u64 0),(.int .u64 0),(.int .u64 0),(.int .u64 0),(.int .u64 0),(.int .u64 0),(.int .u64 0),(.int .u64 0),(.int .u64 0),(.int .u64 0),(.int .u64 0),(.int .u64 0),(.int .u64 0),(.int .u64 0),(.int .u64 0),(.int .u64 0),(.int .u64 0),(.int .u64 0),(.int .u64 0),(.int .u64 0),(.int .u64 0),(.int .u64 0),(.int .u64 0),(.int .u64 0),(.int .u64 0),(.int .u64 0),(.int .u64 0),(.int .u64 0),(.int .u64 0),(.int .u64 0),(.int .u64 0),(.int .u64 0),(.int .u64 0),(.int .u64 0),(.int .u64 0),(.int .u64 0),(.int .u64 0),(.int .u64 0),(.int .u64 0),(.int .u64 0),(.sl 0 [] .nil)]⟩ .leaf)))) 142 ⟨(.ptr 144),1,8,[.nilp]⟩ (.node (.node (.node (.node .leaf 143 ⟨(.struct [(0,39,false),(48,52,false)]),49,408,[(.int .u64 0),(.int .u64 0),(.int .u64 0),(.int .u64 0),(.int .u64 0),(.int .u64 0),(.int .u64 0),(.int .u64 0),(.int .u64 0),(.int .u64 0),(.int .u64 0),(.int .u64 0),(.int .u64 0),(.int .u64 0),(.int .u64 0),(.int .u64 0),(.int .u64 0),(.int .u64 0),(.int .u64 0),(.int .u64 0),(.int .u64 0),(.int .u64 0),(.int .u64 0),(.int .u64 0),(.int .u64 0),(.int .u64 0),(.int .u64 0),(.int .u64 0),(.int .u64 0),(.int .u64 0),(.int .u64 0),(.int .u64 0),(.int .u64 0),(.int .u64 0),(.int .u64 0),(.int .u64 0),(.int .u64 0),(.int .u64 0),(.int .u64 0),(.int .u64 0),(.int .u64 0),(.int .u64 0),(.int .u64 0),(.int .u64 0),(.int .u64 0),(.int .u64 0),(.int .u64 0),(.int .u64 0),(.sl 0 [] .nil)]⟩ .leaf) 144 ⟨(.struct [(0,39,false),(48,52,false)]),49,408,[(.int .u64 0),(.int .u64 0),(.int .u64 0),(.int .u64 0),(.int .u64 0),(.int .u64 0),(.int .u64 0),(.int .u64 0),(.int .u64 0),(.int .u64 0),(.int .u64 0),(.int .u64 0),(.int .u64 0),(.int .u64 0),(.int .u64 0),(.int .u64 0),(.int .u64 0),(.int .u64 0),(.int .u64 0),(.int .u64 0),(.int .u64 0),(.int .u64 0),(.int .u64 0),(.int .u64 0),(.int .u64 0),(.int .u64 0),(.int .u64 0),(.int .u64 0),(.int .u64 0),(.int .u64 0),(.int .u64 0),(.int .u64 0),(.int .u64 0),(.int .u64 0),(.int .u64 0),(.int .u64 0),(.int .u64 0),(.int .u64 0),(.int .u64 0),(.int .u64 0),(.int .u64 0),(.int .u64 0),(.int .u64 0),(.int .u64 0),(.int .u64 0),(.int .u64 0),(.int .u64 0),(.int .u64 0),(.sl 0 [] .nil)]⟩ (.node .leaf 149 ⟨(.arr 16 5),16,16,[(.int .u8 0),(.int .u8 0),(.int .u8 0),(.int .u8 0),(.int .u8 0),(.int .u8 0),(.int .u8 0),(.int .u8 0),(.int .u8 0),(.int .u8 0),(.int .u8 0),(.int .u8 0),(.int .u8 0),(.int .u8 0),(.int .u8 0),(.int .u8 0)]⟩ .leaf)) 156 ⟨(.arr 4 5),4,4,[(.int .u8 0),(.int .u8 0),(.int .u8 0),(.int .u8 0)]⟩ (.node (.node .leaf 165 ⟨(.arr 6 5),6,6,[(.int .u8 0),(.int .u8 0),(.int .u8 0),(.int .u8 0),(.int .u8 0),(.int .u8 0)]⟩ .leaf) 170 ⟨(.arr 2 34),2,16,[(.int .u64 0),(.int .u64 0)]⟩ (.node .leaf 174 ⟨(.arr 0 16),0,0,[]⟩ .leaf))) 177 ⟨(.int .u32),1,4,[(.int .u32 0)]⟩ (.node (.node (.node .leaf 178 ⟨(.int .u8),1,1,[(.int .u8 0)]⟩ .leaf) 179 ⟨(.int .u8),1,1,[(.int .u8 0)]⟩ (.node .leaf 181 ⟨(.ptr 5),1,8,[.nilp]⟩ .leaf)) 182 ⟨(.int .i32),1,4,[(.int .i32 0)]⟩ (.node (.node .leaf 183 ⟨(.int .i32),1,4,[(.int .i32 0)]⟩ .leaf) 186 ⟨.other,1,8,[.nilp]⟩ .leaf)))))
noncomputable def fnTab : FT :=
 (.node (.node (.node (.node (.node (.node (.node .leaf 3 Try.f3 .leaf) 25 Try.f25 (.node .leaf 26 Try.f26 .leaf)) 27 Try.f27 (.node (.node .leaf 28 Try.f28 .leaf) 29 Try.f29 .leaf)) 30 Try.f30 (.node (.node (.node .leaf 31 Try.f31 .leaf) 32 Try.f32 .leaf) 37 Try.f37 (.node (.node .leaf 38 Try.f38 .leaf) 39 Try.f39 .leaf))) 40 Try.f40 (.node (.node (.node (.node .leaf 47 Try.f47 .leaf) 48 Try.f48 .leaf) 50 Try.f50 (.node (.node .leaf 68 Try.f68 .leaf) 70 Try.f70 .leaf)) 71 Try.f71 (.node (.node (.node .leaf 72 Try.f72 .leaf) 73 Try.f73 .leaf) 98 Try.f98 (.node (.node .leaf 99 Try.f99 .leaf) 100 Try.f100 .leaf)))) 101 Try.f101 (.node (.node (.node (.node (.node .leaf 102 Try.f102 .leaf) 103 Try.f103 .leaf) 104 Try.f104 (.node (.node .leaf 105 Try.f105 .leaf) 106 Try.f106 .leaf)) 107 Try.f107 (.node (.node (.node .leaf 108 Try.f108 .leaf) 109 Try.f109 .leaf) 110 Try.f110 (.node (.node .leaf 111 Try.f111 .leaf) 115 Try.f115 .leaf))) 116 Try.f116 (.node (.node (.node (.node .leaf 117 Try.f117 .leaf) 118 Try.f118 .leaf) 125 Try.f125 (.node (.node .leaf 126 Try.f126 .leaf) 127 Try.f127 .leaf)) 128 Try.f128 (.node (.node (.node .leaf 129 Try.f129 .leaf) 130 Try.f130 .leaf) 131 Try.f131 (.node (.node .leaf 132 Try.f132 .leaf) 133 Try.f133 .leaf))))) 134 Try.f134 (.node (.node (.node (.node (.node (.node .leaf 149 Try.f149 .leaf) 150 Try.f150 (.node .leaf 151 Try.f151 .leaf)) 152 Try.f152 (.node (.node .leaf 153 Try.f153 .leaf) 154 Try.f154 .leaf)) 155 Try.f155 (.node (.node (.node .leaf 156 Try.f156 .leaf) 157 Try.f157 .leaf) 158 Try.f158 (.node (.node .leaf 159 Try.f159 .leaf) 160 Try.f160 .leaf))) 161 Try.f161 (.node (.node (.node (.node .leaf 162 Try.f162 .leaf) 163 Try.f163 .leaf) 164 Try.f164 (.node (.node .leaf 166 Try.f166 .leaf) 167 Try.f167 .leaf)) 168 Try.f168 (.node (.node (.node .leaf 169 Try.f169 .leaf) 170 Try.f170 .leaf) 171 Try.f171 (.node (.node .leaf 172 Try.f172 .leaf) 173 Try.f173 .leaf)))) 174 Try.f174 (.node (.node (.node (.node (.node .leaf 175 Try.f175 .leaf) 176 Try.f176 .leaf) 177 Try.f177 (.node (.node .leaf 178 Try.f178 .leaf) 181 Try.f181 .leaf)) 182 Try.f182 (.node (.node (.node .leaf 183 Try.f183 .leaf) 184 Try.f184 .leaf) 185 Try.f185 (.node (.node .leaf 186 Try.f186 .leaf) 187 Try.f187 .leaf))) 188 Try.f188 (.node (.node (.node (.node .leaf 189 Try.f189 .leaf) 190 Try.f190 .leaf) 191 Try.f191 (.node (.node .leaf 192 Try.f192 .leaf) 193 Try.f193 .leaf)) 195 Try.f195 (.node (.node (.node .leaf 196 Try.f196 .leaf) 197 Try.f197 .leaf) 198 Try.f198 (.node (.node .leaf 199 Try.f199 .leaf) 200 Try.f200 .leaf))))))
def keepTab : KT :=
 (.node (.node (.node (.node (.node (.node .leaf 26002 ([0,6,7],[]) .leaf) 26502 ([2,3],[]) .leaf) 39002 ([1,2,5,6],[1,2]) (.node .leaf 39502 ([1,2],[1,2]) .leaf)) 40002 ([1,2,3],[1,2]) (.node (.node (.node .leaf 40502 ([1,2],[1,2]) .leaf) 72003 ([3,6,7,8],[]) .leaf) 72007 ([3],[]) (.node .leaf 72503 ([3],[]) .leaf))) 72507 ([3],[]) (.node (.node (.node (.node .leaf 73003 ([0,3,4],[]) .leaf) 73503 ([3],[]) .leaf) 106003 ([4,5,10,11,12],[4,5]) (.node .leaf 106503 ([4,5],[4,5]) .leaf)) 110003 ([0,2,3,4],[2,3]) (.node (.node .leaf 110503 ([2,3],[2,3]) .leaf) 115005 ([4,6,21,22,23],[4,6]) (.node .leaf 115505 ([4,6],[4,6]) .leaf)))) 116005 ([0,1,4,6,7],[4,6]) (.node (.node (.node (.node (.node .leaf 116505 ([4,6],[4,6]) .leaf) 117003 ([0,2,4,7,10],[4,7]) .leaf) 117503 ([0,2,7],[7]) (.node .leaf 118003 ([4,7,8],[4]) .leaf)) 118503 ([7],[]) (.node (.node .leaf 133005 ([0,1,2,7,15],[7]) .leaf) 133505 ([0,2,7],[7]) (.node .leaf 134005 ([1,7,8],[]) .leaf))) 134505 ([7],[]) (.node (.node (.node (.node .leaf 174007 ([0,1,2,8,9],[]) .leaf) 174507 ([8],[]) .leaf) 178007 ([8,29,30,31],[]) (.node .leaf 178507 ([8],[]) .leaf)) 195002 ([0,1,7,8],[]) (.node (.node .leaf 195502 ([4],[]) .leaf) 199002 ([0,1,5],[]) (.node .leaf 199502 ([0],[]) .leaf)))))
def hdrC (h : Nat → Int) : List AV := [.int .u64 (h 0),.int .u64 (h 1),.int .u64 (h 2),.int .u64 (h 3),.int .u64 (h 4),.int .u64 (h 5),.int .u64 (h 6),.int .u64 (h 7),.int .u64 (h 8),.int .u64 (h 9),.int .u64 (h 10),.int .u64 (h 11),.int .u64 (h 12),.int .u64 (h 13),.int .u64 (h 14),.int .u64 (h 15),.int .u64 (h 16),.int .u64 (h 17),.int .u64 (h 18),.int .u64 (h 19),.int .u64 (h 20),.int .u64 (h 21),.int .u64 (h 22),.int .u64 (h 23),.int .u64 (h 24),.int .u64 (h 25),.int .u64 (h 26),.int .u64 (h 27),.int .u64 (h 28),.int .u64 (h 29),.int .u64 (h 30),.int .u64 (h 31),.int .u64 (h 32),.int .u64 (h 33),.int .u64 (h 34),.int .u64 (h 35),.int .u64 (h 36),.int .u64 (h 37),.int .u64 (h 38),.int .u64 (h 39),.int .u64 (h 40),.int .u64 (h 41),.int .u64 (h 42),.int .u64 (h 43),.int .u64 (h 44),.int .u64 (h 45),.int .u64 (h 46),.int .u64 (h 47)]
def isI (k : IntKind) : AV → Bool
 | .int k' _ => decide (k' = k)
 | _ => false
def intsA (k : IntKind) (xs : List AV) : Bool := xs.all (isI k)
def isHdr (cs : List AV) : Bool := cs.length == 48 && intsA .u64 cs
def pairEq : List AV → List AV → Bool
 | a :: b :: cs,c :: d :: ds => (ieq a.asInt c.asInt && (ieq b.asInt d.asInt && true)) && pairEq cs ds
 | _,_ => true
theorem intsA_eq : ∀ {xs : List AV},intsA .u64 xs = true → xs = xs.map fun v => .int .u64 v.asInt
 | [],_ => rfl
 | x :: xs,h => by
  simp only [intsA,List.all_cons,Bool.and_eq_true] at h
  cases x <;> try (cases h.1; done)
  have h1 := h.1
  simp only [isI,decide_eq_true_eq] at h1
  rw [List.map_cons,← intsA_eq (xs := xs) h.2,h1]; rfl
theorem isHdr_eq {cs : List AV} (h : isHdr cs = true) : cs = hdrC fun j => (cs.getD j .unk).asInt := by
 simp only [isHdr,Bool.and_eq_true,beq_iff_eq] at h
 have e := intsA_eq h.2
 have hl := h.1
 apply List.ext_getElem?
 intro i
 by_cases hi : i < 48
 ·have e2 : cs[i]? = some (.int .u64 (cs.getD i .unk).asInt) := by
   have h3 : cs[i]? = some cs[i] := List.getElem?_eq_getElem (by omega)
   rw [List.getD_eq_getElem?_getD,h3]
   have h4 : (cs.map fun v => AV.int .u64 v.asInt)[i]? = some (.int .u64 cs[i].asInt) := by rw [List.getElem?_map,h3]; rfl
   rw [← e,h3] at h4
   simpa using h4
  rw [e2]
  have all : ∀ (h : Nat → Int) (i : Nat),i < 48 → (hdrC h)[i]? = some (.int .u64 (h i)) := by
   intro h i hi
   match i,hi with
   | 0,_ => rfl
   | 1,_ => rfl
   | 2,_ => rfl
   | 3,_ => rfl
   | 4,_ => rfl
   | 5,_ => rfl
   | 6,_ => rfl
   | 7,_ => rfl
   | 8,_ => rfl
   | 9,_ => rfl
   | 10,_ => rfl
   | 11,_ => rfl
   | 12,_ => rfl
   | 13,_ => rfl
   | 14,_ => rfl
   | 15,_ => rfl
   | 16,_ => rfl
   | 17,_ => rfl
   | 18,_ => rfl
   | 19,_ => rfl
   | 20,_ => rfl
   | 21,_ => rfl
   | 22,_ => rfl
   | 23,_ => rfl
   | 24,_ => rfl
   | 25,_ => rfl
   | 26,_ => rfl
   | 27,_ => rfl
   | 28,_ => rfl
   | 29,_ => rfl
   | 30,_ => rfl
   | 31,_ => rfl
   | 32,_ => rfl
   | 33,_ => rfl
   | 34,_ => rfl
   | 35,_ => rfl
   | 36,_ => rfl
   | 37,_ => rfl
   | 38,_ => rfl
   | 39,_ => rfl
   | 40,_ => rfl
   | 41,_ => rfl
   | 42,_ => rfl
   | 43,_ => rfl
   | 44,_ => rfl
   | 45,_ => rfl
   | 46,_ => rfl
   | 47,_ => rfl
   | i + 48,h => omega
  rw [all _ i hi]
 ·rw [List.getElem?_eq_none (by omega),List.getElem?_eq_none (by show 48 ≤ i; omega)]
def cubC (h : Nat → Int) : List AV := (List.range 96).map fun i => .int .u64 (h i)
def isCub (cs : List AV) : Bool := cs.length == 96 && intsA .u64 cs
def quadEq : List AV → List AV → Bool
 | a :: b :: c :: d :: cs,e :: f :: g :: h :: ds => ((ieq a.asInt e.asInt && (ieq b.asInt f.asInt && true)) && ((ieq c.asInt g.asInt && (ieq d.asInt h.asInt && true)) && true)) && quadEq cs ds
 | _,_ => true
theorem isCub_eq {cs : List AV} (h : isCub cs = true) : cs = cubC fun j => (cs.getD j .unk).asInt := by
 simp only [isCub,Bool.and_eq_true,beq_iff_eq] at h
 obtain ⟨h1,h2⟩ := h
 unfold cubC
 apply List.ext_getElem?
 intro i
 rw [List.getElem?_map]
 by_cases hi : i < 96
 ·have h3 : cs[i]? = some cs[i] := List.getElem?_eq_getElem (by omega)
  have h4 : isI .u64 cs[i] = true := List.all_eq_true.1 h2 _ (List.getElem_mem (by omega))
  rw [List.getElem?_range hi,Option.map_some,h3]
  show some cs[i] = some (.int .u64 (cs.getD i .unk).asInt)
  rw [List.getD_eq_getElem?_getD,h3]
  simp only [Option.getD_some]
  generalize cs[i] = v at h4
  cases v <;> try (cases h4; done)
  simp only [isI,decide_eq_true_eq] at h4
  subst h4; rfl
 ·rw [List.getElem?_eq_none (by omega),List.getElem?_eq_none (by simp; omega)]; rfl
def eqTab (t : TypeId) : Option ((List AV → List AV → Bool) × (List AV → Bool)) := bif Nat.beq t 39 then some (pairEq,isHdr) else bif Nat.beq t 86 then some (quadEq,isCub) else none
theorem eqTab_ok : ∀ t p,eqTab t = some p → ∀ xs ys,p.2 xs = true → p.2 ys = true → eqT tyTab.get 50 t (.agg xs) (.agg ys) = some (p.1 xs ys) := by
 intro t p h xs ys hx hy
 unfold eqTab at h
 cases ht : Nat.beq t 39 <;> rw [ht] at h <;> simp only [cond_true,cond_false] at h
 ·cases ht2 : Nat.beq t 86 <;> rw [ht2] at h <;> simp only [cond_true,cond_false] at h <;> cases h
  rw [Nat.eq_of_beq_eq_true ht2]
  have key : ∀ h g : Nat → Int,eqT tyTab.get 50 86 (.agg (cubC h)) (.agg (cubC g)) = some (quadEq (cubC h) (cubC g)) := fun h g => by kernel_rfl
  rw [isCub_eq hx,isCub_eq hy]
  exact key _ _
 ·cases h
  rw [Nat.eq_of_beq_eq_true ht]
  have key : ∀ h g : Nat → Int,eqT tyTab.get 50 39 (.agg (hdrC h)) (.agg (hdrC g)) = some (pairEq (hdrC h) (hdrC g)) := fun h g => by kernel_rfl
  rw [isHdr_eq hx,isHdr_eq hy]
  exact key _ _
noncomputable def book : Book := { ty := tyTab,fn := fnTab,keep := keepTab,eqs := eqTab,eqok := eqTab_ok }
theorem ty2 : tyOf Try.prog 2 = some ⟨(.int .i64),1,8,[(.int .i64 0)]⟩ := by kernel_rfl
theorem book_ok : book.Ok Try.prog where
 ty := by repeat' (first | exact trivial | (show _ = _; kernel_rfl) | refine ⟨?_,?_,?_⟩)
 fn := ⟨⟨⟨⟨⟨⟨⟨trivial,⟨Try.func3,by show _ = _; kernel_rfl⟩,trivial⟩,⟨Try.func25,by show _ = _; kernel_rfl⟩,⟨trivial,⟨Try.func26,by show _ = _; kernel_rfl⟩,trivial⟩⟩,⟨Try.func27,by show _ = _; kernel_rfl⟩,⟨⟨trivial,⟨Try.func28,by show _ = _; kernel_rfl⟩,trivial⟩,⟨Try.func29,by show _ = _; kernel_rfl⟩,trivial⟩⟩,⟨Try.func30,by show _ = _; kernel_rfl⟩,⟨⟨⟨trivial,⟨Try.func31,by show _ = _; kernel_rfl⟩,trivial⟩,⟨Try.func32,by show _ = _; kernel_rfl⟩,trivial⟩,⟨Try.func37,by show _ = _; kernel_rfl⟩,⟨⟨trivial,⟨Try.func38,by show _ = _; kernel_rfl⟩,trivial⟩,⟨Try.func39,by show _ = _; kernel_rfl⟩,trivial⟩⟩⟩,⟨Try.func40,by show _ = _; kernel_rfl⟩,⟨⟨⟨⟨trivial,⟨Try.func47,by show _ = _; kernel_rfl⟩,trivial⟩,⟨Try.func48,by show _ = _; kernel_rfl⟩,trivial⟩,⟨Try.func50,by show _ = _; kernel_rfl⟩,⟨⟨trivial,⟨Try.func68,by show _ = _; kernel_rfl⟩,trivial⟩,⟨Try.func70,by show _ = _; kernel_rfl⟩,trivial⟩⟩,⟨Try.func71,by show _ = _; kernel_rfl⟩,⟨⟨⟨trivial,⟨Try.func72,by show _ = _; kernel_rfl⟩,trivial⟩,⟨Try.func73,by show _ = _; kernel_rfl⟩,trivial⟩,⟨Try.func98,by show _ = _; kernel_rfl⟩,⟨⟨trivial,⟨Try.func99,by show _ = _; kernel_rfl⟩,trivial⟩,⟨Try.func100,by show _ = _; kernel_rfl⟩,trivial⟩⟩⟩⟩,⟨Try.func101,by show _ = _; kernel_rfl⟩,⟨⟨⟨⟨⟨trivial,⟨Try.func102,by show _ = _; kernel_rfl⟩,trivial⟩,⟨Try.func103,by show _ = _; kernel_rfl⟩,trivial⟩,⟨Try.func104,by show _ = _; kernel_rfl⟩,⟨⟨trivial,⟨Try.func105,by show _ = _; kernel_rfl⟩,trivial⟩,⟨Try.func106,by show _ = _; kernel_rfl⟩,trivial⟩⟩,⟨Try.func107,by show _ = _; kernel_rfl⟩,⟨⟨⟨trivial,⟨Try.func108,by show _ = _; kernel_rfl⟩,trivial⟩,⟨Try.func109,by show _ = _; kernel_rfl⟩,trivial⟩,⟨Try.func110,by show _ = _; kernel_rfl⟩,⟨⟨trivial,⟨Try.func111,by show _ = _; kernel_rfl⟩,trivial⟩,⟨Try.func115,by show _ = _; kernel_rfl⟩,trivial⟩⟩⟩,⟨Try.func116,by show _ = _; kernel_rfl⟩,⟨⟨⟨⟨trivial,⟨Try.func117,by show _ = _; kernel_rfl⟩,trivial⟩,⟨Try.func118,by show _ = _; kernel_rfl⟩,trivial⟩,⟨Try.func125,by show _ = _; kernel_rfl⟩,⟨⟨trivial,⟨Try.func126,by show _ = _; kernel_rfl⟩,trivial⟩,⟨Try.func127,by show _ = _; kernel_rfl⟩,trivial⟩⟩,⟨Try.func128,by show _ = _; kernel_rfl⟩,⟨⟨⟨trivial,⟨Try.func129,by show _ = _; kernel_rfl⟩,trivial⟩,⟨Try.func130,by show _ = _; kernel_rfl⟩,trivial⟩,⟨Try.func131,by show _ = _; kernel_rfl⟩,⟨⟨trivial,⟨Try.func132,by show _ = _; kernel_rfl⟩,trivial⟩,⟨Try.func133,by show _ = _; kernel_rfl⟩,trivial⟩⟩⟩⟩⟩,⟨Try.func134,by show _ = _; kernel_rfl⟩,⟨⟨⟨⟨⟨⟨trivial,⟨Try.func149,by show _ = _; kernel_rfl⟩,trivial⟩,⟨Try.func150,by show _ = _; kernel_rfl⟩,⟨trivial,⟨Try.func151,by show _ = _; kernel_rfl⟩,trivial⟩⟩,⟨Try.func152,by show _ = _; kernel_rfl⟩,⟨⟨trivial,⟨Try.func153,by show _ = _; kernel_rfl⟩,trivial⟩,⟨Try.func154,by show _ = _; kernel_rfl⟩,trivial⟩⟩,⟨Try.func155,by show _ = _; kernel_rfl⟩,⟨⟨⟨trivial,⟨Try.func156,by show _ = _; kernel_rfl⟩,trivial⟩,⟨Try.func157,by show _ = _; kernel_rfl⟩,trivial⟩,⟨Try.func158,by show _ = _; kernel_rfl⟩,⟨⟨trivial,⟨Try.func159,by show _ = _; kernel_rfl⟩,trivial⟩,⟨Try.func160,by show _ = _; kernel_rfl⟩,trivial⟩⟩⟩,⟨Try.func161,by show _ = _; kernel_rfl⟩,⟨⟨⟨⟨trivial,⟨Try.func162,by show _ = _; kernel_rfl⟩,trivial⟩,⟨Try.func163,by show _ = _; kernel_rfl⟩,trivial⟩,⟨Try.func164,by show _ = _; kernel_rfl⟩,⟨⟨trivial,⟨Try.func166,by show _ = _; kernel_rfl⟩,trivial⟩,⟨Try.func167,by show _ = _; kernel_rfl⟩,trivial⟩⟩,⟨Try.func168,by show _ = _; kernel_rfl⟩,⟨⟨⟨trivial,⟨Try.func169,by show _ = _; kernel_rfl⟩,trivial⟩,⟨Try.func170,by show _ = _; kernel_rfl⟩,trivial⟩,⟨Try.func171,by show _ = _; kernel_rfl⟩,⟨⟨trivial,⟨Try.func172,by show _ = _; kernel_rfl⟩,trivial⟩,⟨Try.func173,by show _ = _; kernel_rfl⟩,trivial⟩⟩⟩⟩,⟨Try.func174,by show _ = _; kernel_rfl⟩,⟨⟨⟨⟨⟨trivial,⟨Try.func175,by show _ = _; kernel_rfl⟩,trivial⟩,⟨Try.func176,by show _ = _; kernel_rfl⟩,trivial⟩,⟨Try.func177,by show _ = _; kernel_rfl⟩,⟨⟨trivial,⟨Try.func178,by show _ = _; kernel_rfl⟩,trivial⟩,⟨Try.func181,by show _ = _; kernel_rfl⟩,trivial⟩⟩,⟨Try.func182,by show _ = _; kernel_rfl⟩,⟨⟨⟨trivial,⟨Try.func183,by show _ = _; kernel_rfl⟩,trivial⟩,⟨Try.func184,by show _ = _; kernel_rfl⟩,trivial⟩,⟨Try.func185,by show _ = _; kernel_rfl⟩,⟨⟨trivial,⟨Try.func186,by show _ = _; kernel_rfl⟩,trivial⟩,⟨Try.func187,by show _ = _; kernel_rfl⟩,trivial⟩⟩⟩,⟨Try.func188,by show _ = _; kernel_rfl⟩,⟨⟨⟨⟨trivial,⟨Try.func189,by show _ = _; kernel_rfl⟩,trivial⟩,⟨Try.func190,by show _ = _; kernel_rfl⟩,trivial⟩,⟨Try.func191,by show _ = _; kernel_rfl⟩,⟨⟨trivial,⟨Try.func192,by show _ = _; kernel_rfl⟩,trivial⟩,⟨Try.func193,by show _ = _; kernel_rfl⟩,trivial⟩⟩,⟨Try.func195,by show _ = _; kernel_rfl⟩,⟨⟨⟨trivial,⟨Try.func196,by show _ = _; kernel_rfl⟩,trivial⟩,⟨Try.func197,by show _ = _; kernel_rfl⟩,trivial⟩,⟨Try.func198,by show _ = _; kernel_rfl⟩,⟨⟨trivial,⟨Try.func199,by show _ = _; kernel_rfl⟩,trivial⟩,⟨Try.func200,by show _ = _; kernel_rfl⟩,trivial⟩⟩⟩⟩⟩⟩
 mixed := Checked.mixed Try.checked
end Go.Proofs.Ytdcijmigoefnjaa
