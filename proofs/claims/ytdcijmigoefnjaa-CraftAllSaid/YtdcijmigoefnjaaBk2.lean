import Derived.Test.YtdcijmigoefnjaaChecked
import Derived.Test.YtdcijmigoefnjaaEv3
import Derived.KernelRfl
import Derived.Eval
/- The tables of this seat's program for the evaluator: types, functions, what loops keep. -/
namespace Go.Proofs.Ytdcijmigoefnjaa
open Go Go.Ev
set_option maxRecDepth 100000 in
def tyTab : TT :=
  (.node (.node (.node (.node (.node (.node .leaf 2 ⟨(.int .i64), 1, 8, [(.int .i64 0)]⟩ .leaf) 3 ⟨(.int .i64), 1, 8, [(.int .i64 0)]⟩ (.node .leaf 4 ⟨.bool, 1, 1, [(.bool false)]⟩ .leaf)) 5 ⟨(.int .u8), 1, 1, [(.int .u8 0)]⟩ (.node (.node .leaf 6 ⟨(.int .u8), 1, 1, [(.int .u8 0)]⟩ .leaf) 7 ⟨(.struct [(0, 2, false), (1, 3, false), (2, 4, false), (3, 6, false)]), 4, 24, [(.int .i64 0), (.int .i64 0), (.bool false), (.int .u8 0)]⟩ (.node .leaf 8 ⟨(.struct [(0, 2, false), (1, 3, false), (2, 4, false), (3, 6, false)]), 4, 24, [(.int .i64 0), (.int .i64 0), (.bool false), (.int .u8 0)]⟩ .leaf))) 9 ⟨.str, 1, 16, [(.str [])]⟩ (.node (.node (.node .leaf 10 ⟨.str, 1, 16, [(.str [])]⟩ .leaf) 11 ⟨.str, 1, 16, [(.str [])]⟩ (.node .leaf 12 ⟨(.int .u64), 1, 8, [(.int .u64 0)]⟩ .leaf)) 15 ⟨(.ptr 173), 1, 8, [.nilp]⟩ (.node (.node .leaf 16 ⟨(.ptr 176), 1, 8, [.nilp]⟩ .leaf) 17 ⟨(.ptr 185), 1, 8, [.nilp]⟩ (.node .leaf 20 ⟨.other, 1, 16, [.niliface]⟩ .leaf)))) 21 ⟨(.int .i32), 1, 4, [(.int .i32 0)]⟩ (.node (.node (.node (.node .leaf 28 ⟨(.slice 32), 1, 24, [(.sl 0 [] .nil)]⟩ .leaf) 30 ⟨(.slice 36), 1, 24, [(.sl 0 [] .nil)]⟩ (.node .leaf 31 ⟨(.struct [(0, 3, false), (1, 30, false)]), 2, 32, [(.int .i64 0), (.sl 0 [] .nil)]⟩ .leaf)) 32 ⟨(.struct [(0, 3, false), (1, 30, false)]), 2, 32, [(.int .i64 0), (.sl 0 [] .nil)]⟩ (.node (.node .leaf 34 ⟨(.int .u64), 1, 8, [(.int .u64 0)]⟩ .leaf) 35 ⟨(.struct [(0, 34, false), (1, 34, false)]), 2, 16, [(.int .u64 0), (.int .u64 0)]⟩ (.node .leaf 36 ⟨(.struct [(0, 34, false), (1, 34, false)]), 2, 16, [(.int .u64 0), (.int .u64 0)]⟩ .leaf))) 38 ⟨(.arr 24 36), 48, 384, [(.int .u64 0), (.int .u64 0), (.int .u64 0), (.int .u64 0), (.int .u64 0), (.int .u64 0), (.int .u64 0), (.int .u64 0), (.int .u64 0), (.int .u64 0), (.int .u64 0), (.int .u64 0), (.int .u64 0), (.int .u64 0), (.int .u64 0), (.int .u64 0), (.int .u64 0), (.int .u64 0), (.int .u64 0), (.int .u64 0), (.int .u64 0), (.int .u64 0), (.int .u64 0), (.int .u64 0), (.int .u64 0), (.int .u64 0), (.int .u64 0), (.int .u64 0), (.int .u64 0), (.int .u64 0), (.int .u64 0), (.int .u64 0), (.int .u64 0), (.int .u64 0), (.int .u64 0), (.int .u64 0), (.int .u64 0), (.int .u64 0), (.int .u64 0), (.int .u64 0), (.int .u64 0), (.int .u64 0), (.int .u64 0), (.int .u64 0), (.int .u64 0), (.int .u64 0), (.int .u64 0), (.int .u64 0)]⟩ (.node (.node (.node .leaf 39 ⟨(.arr 24 36), 48, 384, [(.int .u64 0), (.int .u64 0), (.int .u64 0), (.int .u64 0), (.int .u64 0), (.int .u64 0), (.int .u64 0), (.int .u64 0), (.int .u64 0), (.int .u64 0), (.int .u64 0), (.int .u64 0), (.int .u64 0), (.int .u64 0), (.int .u64 0), (.int .u64 0), (.int .u64 0), (.int .u64 0), (.int .u64 0), (.int .u64 0), (.int .u64 0), (.int .u64 0), (.int .u64 0), (.int .u64 0), (.int .u64 0), (.int .u64 0), (.int .u64 0), (.int .u64 0), (.int .u64 0), (.int .u64 0), (.int .u64 0), (.int .u64 0), (.int .u64 0), (.int .u64 0), (.int .u64 0), (.int .u64 0), (.int .u64 0), (.int .u64 0), (.int .u64 0), (.int .u64 0), (.int .u64 0), (.int .u64 0), (.int .u64 0), (.int .u64 0), (.int .u64 0), (.int .u64 0), (.int .u64 0), (.int .u64 0)]⟩ .leaf) 45 ⟨(.slice 3), 1, 24, [(.sl 0 [] .nil)]⟩ (.node .leaf 52 ⟨(.slice 5), 1, 24, [(.sl 0 [] .nil)]⟩ .leaf)) 53 ⟨(.int .i64), 1, 8, [(.int .i64 0)]⟩ (.node (.node .leaf 59 ⟨(.struct [(0, 3, false), (1, 4, false), (2, 36, false), (4, 36, false)]), 6, 48, [(.int .i64 0), (.bool false), (.int .u64 0), (.int .u64 0), (.int .u64 0), (.int .u64 0)]⟩ .leaf) 60 ⟨(.struct [(0, 3, false), (1, 4, false), (2, 36, false), (4, 36, false)]), 6, 48, [(.int .i64 0), (.bool false), (.int .u64 0), (.int .u64 0), (.int .u64 0), (.int .u64 0)]⟩ (.node .leaf 61 ⟨(.struct [(0, 4, false), (1, 3, false), (2, 3, false)]), 3, 24, [(.bool false), (.int .i64 0), (.int .i64 0)]⟩ .leaf))))) 62 ⟨(.struct [(0, 4, false), (1, 3, false), (2, 3, false)]), 3, 24, [(.bool false), (.int .i64 0), (.int .i64 0)]⟩ (.node (.node (.node (.node (.node .leaf 67 ⟨(.struct [(0, 36, false), (2, 36, false)]), 4, 32, [(.int .u64 0), (.int .u64 0), (.int .u64 0), (.int .u64 0)]⟩ .leaf) 68 ⟨(.struct [(0, 36, false), (2, 36, false)]), 4, 32, [(.int .u64 0), (.int .u64 0), (.int .u64 0), (.int .u64 0)]⟩ (.node .leaf 74 ⟨(.int .u16), 1, 2, [(.int .u16 0)]⟩ .leaf)) 76 ⟨(.int .u64), 1, 8, [(.int .u64 0)]⟩ (.node (.node .leaf 84 ⟨(.slice 60), 1, 24, [(.sl 0 [] .nil)]⟩ .leaf) 85 ⟨(.arr 24 68), 96, 768, [(.int .u64 0), (.int .u64 0), (.int .u64 0), (.int .u64 0), (.int .u64 0), (.int .u64 0), (.int .u64 0), (.int .u64 0), (.int .u64 0), (.int .u64 0), (.int .u64 0), (.int .u64 0), (.int .u64 0), (.int .u64 0), (.int .u64 0), (.int .u64 0), (.int .u64 0), (.int .u64 0), (.int .u64 0), (.int .u64 0), (.int .u64 0), (.int .u64 0), (.int .u64 0), (.int .u64 0), (.int .u64 0), (.int .u64 0), (.int .u64 0), (.int .u64 0), (.int .u64 0), (.int .u64 0), (.int .u64 0), (.int .u64 0), (.int .u64 0), (.int .u64 0), (.int .u64 0), (.int .u64 0), (.int .u64 0), (.int .u64 0), (.int .u64 0), (.int .u64 0), (.int .u64 0), (.int .u64 0), (.int .u64 0), (.int .u64 0), (.int .u64 0), (.int .u64 0), (.int .u64 0), (.int .u64 0), (.int .u64 0), (.int .u64 0), (.int .u64 0), (.int .u64 0), (.int .u64 0), (.int .u64 0), (.int .u64 0), (.int .u64 0), (.int .u64 0), (.int .u64 0), (.int .u64 0), (.int .u64 0), (.int .u64 0), (.int .u64 0), (.int .u64 0), (.int .u64 0), (.int .u64 0), (.int .u64 0), (.int .u64 0), (.int .u64 0), (.int .u64 0), (.int .u64 0), (.int .u64 0), (.int .u64 0), (.int .u64 0), (.int .u64 0), (.int .u64 0), (.int .u64 0), (.int .u64 0), (.int .u64 0), (.int .u64 0), (.int .u64 0), (.int .u64 0), (.int .u64 0), (.int .u64 0), (.int .u64 0), (.int .u64 0), (.int .u64 0), (.int .u64 0), (.int .u64 0), (.int .u64 0), (.int .u64 0), (.int .u64 0), (.int .u64 0), (.int .u64 0), (.int .u64 0), (.int .u64 0), (.int .u64 0)]⟩ (.node .leaf 86 ⟨(.arr 24 68), 96, 768, [(.int .u64 0), (.int .u64 0), (.int .u64 0), (.int .u64 0), (.int .u64 0), (.int .u64 0), (.int .u64 0), (.int .u64 0), (.int .u64 0), (.int .u64 0), (.int .u64 0), (.int .u64 0), (.int .u64 0), (.int .u64 0), (.int .u64 0), (.int .u64 0), (.int .u64 0), (.int .u64 0), (.int .u64 0), (.int .u64 0), (.int .u64 0), (.int .u64 0), (.int .u64 0), (.int .u64 0), (.int .u64 0), (.int .u64 0), (.int .u64 0), (.int .u64 0), (.int .u64 0), (.int .u64 0), (.int .u64 0), (.int .u64 0), (.int .u64 0), (.int .u64 0), (.int .u64 0), (.int .u64 0), (.int .u64 0), (.int .u64 0), (.int .u64 0), (.int .u64 0), (.int .u64 0), (.int .u64 0), (.int .u64 0), (.int .u64 0), (.int .u64 0), (.int .u64 0), (.int .u64 0), (.int .u64 0), (.int .u64 0), (.int .u64 0), (.int .u64 0), (.int .u64 0), (.int .u64 0), (.int .u64 0), (.int .u64 0), (.int .u64 0), (.int .u64 0), (.int .u64 0), (.int .u64 0), (.int .u64 0), (.int .u64 0), (.int .u64 0), (.int .u64 0), (.int .u64 0), (.int .u64 0), (.int .u64 0), (.int .u64 0), (.int .u64 0), (.int .u64 0), (.int .u64 0), (.int .u64 0), (.int .u64 0), (.int .u64 0), (.int .u64 0), (.int .u64 0), (.int .u64 0), (.int .u64 0), (.int .u64 0), (.int .u64 0), (.int .u64 0), (.int .u64 0), (.int .u64 0), (.int .u64 0), (.int .u64 0), (.int .u64 0), (.int .u64 0), (.int .u64 0), (.int .u64 0), (.int .u64 0), (.int .u64 0), (.int .u64 0), (.int .u64 0), (.int .u64 0), (.int .u64 0), (.int .u64 0), (.int .u64 0)]⟩ .leaf))) 100 ⟨(.struct [(0, 9, false), (1, 3, false), (2, 3, false), (3, 4, false)]), 4, 40, [(.str []), (.int .i64 0), (.int .i64 0), (.bool false)]⟩ (.node (.node (.node .leaf 101 ⟨(.struct [(0, 9, false), (1, 3, false), (2, 3, false), (3, 4, false)]), 4, 40, [(.str []), (.int .i64 0), (.int .i64 0), (.bool false)]⟩ .leaf) 102 ⟨(.arr 24 101), 96, 960, [(.str []), (.int .i64 0), (.int .i64 0), (.bool false), (.str []), (.int .i64 0), (.int .i64 0), (.bool false), (.str []), (.int .i64 0), (.int .i64 0), (.bool false), (.str []), (.int .i64 0), (.int .i64 0), (.bool false), (.str []), (.int .i64 0), (.int .i64 0), (.bool false), (.str []), (.int .i64 0), (.int .i64 0), (.bool false), (.str []), (.int .i64 0), (.int .i64 0), (.bool false), (.str []), (.int .i64 0), (.int .i64 0), (.bool false), (.str []), (.int .i64 0), (.int .i64 0), (.bool false), (.str []), (.int .i64 0), (.int .i64 0), (.bool false), (.str []), (.int .i64 0), (.int .i64 0), (.bool false), (.str []), (.int .i64 0), (.int .i64 0), (.bool false), (.str []), (.int .i64 0), (.int .i64 0), (.bool false), (.str []), (.int .i64 0), (.int .i64 0), (.bool false), (.str []), (.int .i64 0), (.int .i64 0), (.bool false), (.str []), (.int .i64 0), (.int .i64 0), (.bool false), (.str []), (.int .i64 0), (.int .i64 0), (.bool false), (.str []), (.int .i64 0), (.int .i64 0), (.bool false), (.str []), (.int .i64 0), (.int .i64 0), (.bool false), (.str []), (.int .i64 0), (.int .i64 0), (.bool false), (.str []), (.int .i64 0), (.int .i64 0), (.bool false), (.str []), (.int .i64 0), (.int .i64 0), (.bool false), (.str []), (.int .i64 0), (.int .i64 0), (.bool false), (.str []), (.int .i64 0), (.int .i64 0), (.bool false)]⟩ (.node .leaf 107 ⟨(.slice 34), 1, 24, [(.sl 0 [] .nil)]⟩ .leaf)) 117 ⟨(.int .i64), 1, 8, [(.int .i64 0)]⟩ (.node (.node .leaf 123 ⟨(.ptr 125), 1, 8, [.nilp]⟩ .leaf) 124 ⟨(.struct [(0, 39, false), (48, 52, false)]), 49, 408, [(.int .u64 0), (.int .u64 0), (.int .u64 0), (.int .u64 0), (.int .u64 0), (.int .u64 0), (.int .u64 0), (.int .u64 0), (.int .u64 0), (.int .u64 0), (.int .u64 0), (.int .u64 0), (.int .u64 0), (.int .u64 0), (.int .u64 0), (.int .u64 0), (.int .u64 0), (.int .u64 0), (.int .u64 0), (.int .u64 0), (.int .u64 0), (.int .u64 0), (.int .u64 0), (.int .u64 0), (.int .u64 0), (.int .u64 0), (.int .u64 0), (.int .u64 0), (.int .u64 0), (.int .u64 0), (.int .u64 0), (.int .u64 0), (.int .u64 0), (.int .u64 0), (.int .u64 0), (.int .u64 0), (.int .u64 0), (.int .u64 0), (.int .u64 0), (.int .u64 0), (.int .u64 0), (.int .u64 0), (.int .u64 0), (.int .u64 0), (.int .u64 0), (.int .u64 0), (.int .u64 0), (.int .u64 0), (.sl 0 [] .nil)]⟩ (.node .leaf 125 ⟨(.struct [(0, 39, false), (48, 52, false)]), 49, 408, [(.int .u64 0), (.int .u64 0), (.int .u64 0), (.int .u64 0), (.int .u64 0), (.int .u64 0), (.int .u64 0), (.int .u64 0), (.int .u64 0), (.int .u64 0), (.int .u64 0), (.int .u64 0), (.int .u64 0), (.int .u64 0), (.int .u64 0), (.int .u64 0), (.int .u64 0), (.int .u64 0), (.int .u64 0), (.int .u64 0), (.int .u64 0), (.int .u64 0), (.int .u64 0), (.int .u64 0), (.int .u64 0), (.int .u64 0), (.int .u64 0), (.int .u64 0), (.int .u64 0), (.int .u64 0), (.int .u64 0), (.int .u64 0), (.int .u64 0), (.int .u64 0), (.int .u64 0), (.int .u64 0), (.int .u64 0), (.int .u64 0), (.int .u64 0), (.int .u64 0), (.int .u64 0), (.int .u64 0), (.int .u64 0), (.int .u64 0), (.int .u64 0), (.int .u64 0), (.int .u64 0), (.int .u64 0), (.sl 0 [] .nil)]⟩ .leaf)))) 142 ⟨(.ptr 144), 1, 8, [.nilp]⟩ (.node (.node (.node (.node .leaf 143 ⟨(.struct [(0, 39, false), (48, 52, false)]), 49, 408, [(.int .u64 0), (.int .u64 0), (.int .u64 0), (.int .u64 0), (.int .u64 0), (.int .u64 0), (.int .u64 0), (.int .u64 0), (.int .u64 0), (.int .u64 0), (.int .u64 0), (.int .u64 0), (.int .u64 0), (.int .u64 0), (.int .u64 0), (.int .u64 0), (.int .u64 0), (.int .u64 0), (.int .u64 0), (.int .u64 0), (.int .u64 0), (.int .u64 0), (.int .u64 0), (.int .u64 0), (.int .u64 0), (.int .u64 0), (.int .u64 0), (.int .u64 0), (.int .u64 0), (.int .u64 0), (.int .u64 0), (.int .u64 0), (.int .u64 0), (.int .u64 0), (.int .u64 0), (.int .u64 0), (.int .u64 0), (.int .u64 0), (.int .u64 0), (.int .u64 0), (.int .u64 0), (.int .u64 0), (.int .u64 0), (.int .u64 0), (.int .u64 0), (.int .u64 0), (.int .u64 0), (.int .u64 0), (.sl 0 [] .nil)]⟩ .leaf) 144 ⟨(.struct [(0, 39, false), (48, 52, false)]), 49, 408, [(.int .u64 0), (.int .u64 0), (.int .u64 0), (.int .u64 0), (.int .u64 0), (.int .u64 0), (.int .u64 0), (.int .u64 0), (.int .u64 0), (.int .u64 0), (.int .u64 0), (.int .u64 0), (.int .u64 0), (.int .u64 0), (.int .u64 0), (.int .u64 0), (.int .u64 0), (.int .u64 0), (.int .u64 0), (.int .u64 0), (.int .u64 0), (.int .u64 0), (.int .u64 0), (.int .u64 0), (.int .u64 0), (.int .u64 0), (.int .u64 0), (.int .u64 0), (.int .u64 0), (.int .u64 0), (.int .u64 0), (.int .u64 0), (.int .u64 0), (.int .u64 0), (.int .u64 0), (.int .u64 0), (.int .u64 0), (.int .u64 0), (.int .u64 0), (.int .u64 0), (.int .u64 0), (.int .u64 0), (.int .u64 0), (.int .u64 0), (.int .u64 0), (.int .u64 0), (.int .u64 0), (.int .u64 0), (.sl 0 [] .nil)]⟩ (.node .leaf 149 ⟨(.arr 16 5), 16, 16, [(.int .u8 0), (.int .u8 0), (.int .u8 0), (.int .u8 0), (.int .u8 0), (.int .u8 0), (.int .u8 0), (.int .u8 0), (.int .u8 0), (.int .u8 0), (.int .u8 0), (.int .u8 0), (.int .u8 0), (.int .u8 0), (.int .u8 0), (.int .u8 0)]⟩ .leaf)) 156 ⟨(.arr 4 5), 4, 4, [(.int .u8 0), (.int .u8 0), (.int .u8 0), (.int .u8 0)]⟩ (.node (.node .leaf 165 ⟨(.arr 6 5), 6, 6, [(.int .u8 0), (.int .u8 0), (.int .u8 0), (.int .u8 0), (.int .u8 0), (.int .u8 0)]⟩ .leaf) 170 ⟨(.arr 2 34), 2, 16, [(.int .u64 0), (.int .u64 0)]⟩ (.node .leaf 174 ⟨(.arr 0 16), 0, 0, []⟩ .leaf))) 177 ⟨(.int .u32), 1, 4, [(.int .u32 0)]⟩ (.node (.node (.node .leaf 178 ⟨(.int .u8), 1, 1, [(.int .u8 0)]⟩ .leaf) 179 ⟨(.int .u8), 1, 1, [(.int .u8 0)]⟩ (.node .leaf 181 ⟨(.ptr 5), 1, 8, [.nilp]⟩ .leaf)) 182 ⟨(.int .i32), 1, 4, [(.int .i32 0)]⟩ (.node (.node .leaf 183 ⟨(.int .i32), 1, 4, [(.int .i32 0)]⟩ .leaf) 186 ⟨.other, 1, 8, [.nilp]⟩ .leaf)))))
noncomputable def fnTab : FT :=
  (.node (.node (.node (.node (.node (.node (.node (.node .leaf 3 Try.f3 .leaf) 4 Try.f4 (.node .leaf 5 Try.f5 .leaf)) 6 Try.f6 (.node (.node .leaf 7 Try.f7 .leaf) 8 Try.f8 .leaf)) 9 Try.f9 (.node (.node (.node .leaf 10 Try.f10 .leaf) 11 Try.f11 .leaf) 12 Try.f12 (.node (.node .leaf 13 Try.f13 .leaf) 14 Try.f14 .leaf))) 15 Try.f15 (.node (.node (.node (.node .leaf 16 Try.f16 .leaf) 17 Try.f17 .leaf) 18 Try.f18 (.node (.node .leaf 19 Try.f19 .leaf) 20 Try.f20 .leaf)) 21 Try.f21 (.node (.node (.node .leaf 22 Try.f22 .leaf) 23 Try.f23 .leaf) 24 Try.f24 (.node (.node .leaf 25 Try.f25 .leaf) 26 Try.f26 .leaf)))) 27 Try.f27 (.node (.node (.node (.node (.node .leaf 28 Try.f28 .leaf) 29 Try.f29 (.node .leaf 30 Try.f30 .leaf)) 31 Try.f31 (.node (.node .leaf 32 Try.f32 .leaf) 33 Try.f33 .leaf)) 34 Try.f34 (.node (.node (.node .leaf 35 Try.f35 .leaf) 36 Try.f36 .leaf) 37 Try.f37 (.node (.node .leaf 38 Try.f38 .leaf) 39 Try.f39 .leaf))) 40 Try.f40 (.node (.node (.node (.node .leaf 41 Try.f41 .leaf) 42 Try.f42 .leaf) 43 Try.f43 (.node (.node .leaf 44 Try.f44 .leaf) 45 Try.f45 .leaf)) 46 Try.f46 (.node (.node (.node .leaf 47 Try.f47 .leaf) 48 Try.f48 .leaf) 49 Try.f49 (.node (.node .leaf 50 Try.f50 .leaf) 51 Try.f51 .leaf))))) 52 Try.f52 (.node (.node (.node (.node (.node (.node .leaf 53 Try.f53 .leaf) 54 Try.f54 (.node .leaf 55 Try.f55 .leaf)) 56 Try.f56 (.node (.node .leaf 57 Try.f57 .leaf) 58 Try.f58 .leaf)) 59 Try.f59 (.node (.node (.node .leaf 60 Try.f60 .leaf) 61 Try.f61 .leaf) 62 Try.f62 (.node (.node .leaf 63 Try.f63 .leaf) 64 Try.f64 .leaf))) 65 Try.f65 (.node (.node (.node (.node .leaf 66 Try.f66 .leaf) 67 Try.f67 .leaf) 68 Try.f68 (.node (.node .leaf 69 Try.f69 .leaf) 70 Try.f70 .leaf)) 71 Try.f71 (.node (.node (.node .leaf 72 Try.f72 .leaf) 73 Try.f73 .leaf) 74 Try.f74 (.node (.node .leaf 75 Try.f75 .leaf) 76 Try.f76 .leaf)))) 77 Try.f77 (.node (.node (.node (.node (.node .leaf 78 Try.f78 .leaf) 79 Try.f79 (.node .leaf 80 Try.f80 .leaf)) 81 Try.f81 (.node (.node .leaf 82 Try.f82 .leaf) 83 Try.f83 .leaf)) 84 Try.f84 (.node (.node (.node .leaf 85 Try.f85 .leaf) 86 Try.f86 .leaf) 87 Try.f87 (.node (.node .leaf 88 Try.f88 .leaf) 89 Try.f89 .leaf))) 90 Try.f90 (.node (.node (.node (.node .leaf 91 Try.f91 .leaf) 92 Try.f92 .leaf) 93 Try.f93 (.node (.node .leaf 94 Try.f94 .leaf) 95 Try.f95 .leaf)) 96 Try.f96 (.node (.node (.node .leaf 97 Try.f97 .leaf) 98 Try.f98 .leaf) 99 Try.f99 (.node (.node .leaf 100 Try.f100 .leaf) 101 Try.f101 .leaf)))))) 102 Try.f102 (.node (.node (.node (.node (.node (.node (.node .leaf 103 Try.f103 .leaf) 104 Try.f104 (.node .leaf 105 Try.f105 .leaf)) 106 Try.f106 (.node (.node .leaf 107 Try.f107 .leaf) 108 Try.f108 .leaf)) 109 Try.f109 (.node (.node (.node .leaf 110 Try.f110 .leaf) 111 Try.f111 .leaf) 112 Try.f112 (.node (.node .leaf 113 Try.f113 .leaf) 114 Try.f114 .leaf))) 115 Try.f115 (.node (.node (.node (.node .leaf 116 Try.f116 .leaf) 117 Try.f117 .leaf) 118 Try.f118 (.node (.node .leaf 119 Try.f119 .leaf) 120 Try.f120 .leaf)) 121 Try.f121 (.node (.node (.node .leaf 122 Try.f122 .leaf) 123 Try.f123 .leaf) 124 Try.f124 (.node (.node .leaf 125 Try.f125 .leaf) 126 Try.f126 .leaf)))) 127 Try.f127 (.node (.node (.node (.node (.node .leaf 128 Try.f128 .leaf) 129 Try.f129 (.node .leaf 130 Try.f130 .leaf)) 131 Try.f131 (.node (.node .leaf 132 Try.f132 .leaf) 133 Try.f133 .leaf)) 134 Try.f134 (.node (.node (.node .leaf 135 Try.f135 .leaf) 136 Try.f136 .leaf) 137 Try.f137 (.node (.node .leaf 138 Try.f138 .leaf) 139 Try.f139 .leaf))) 140 Try.f140 (.node (.node (.node (.node .leaf 141 Try.f141 .leaf) 142 Try.f142 .leaf) 143 Try.f143 (.node (.node .leaf 144 Try.f144 .leaf) 145 Try.f145 .leaf)) 146 Try.f146 (.node (.node (.node .leaf 147 Try.f147 .leaf) 148 Try.f148 .leaf) 149 Try.f149 (.node (.node .leaf 150 Try.f150 .leaf) 151 Try.f151 .leaf))))) 152 Try.f152 (.node (.node (.node (.node (.node (.node .leaf 153 Try.f153 .leaf) 154 Try.f154 (.node .leaf 155 Try.f155 .leaf)) 156 Try.f156 (.node (.node .leaf 157 Try.f157 .leaf) 158 Try.f158 .leaf)) 159 Try.f159 (.node (.node (.node .leaf 160 Try.f160 .leaf) 161 Try.f161 .leaf) 162 Try.f162 (.node (.node .leaf 163 Try.f163 .leaf) 164 Try.f164 .leaf))) 165 Try.f165 (.node (.node (.node (.node .leaf 166 Try.f166 .leaf) 167 Try.f167 .leaf) 168 Try.f168 (.node (.node .leaf 169 Try.f169 .leaf) 170 Try.f170 .leaf)) 171 Try.f171 (.node (.node (.node .leaf 172 Try.f172 .leaf) 173 Try.f173 .leaf) 174 Try.f174 (.node (.node .leaf 175 Try.f175 .leaf) 176 Try.f176 .leaf)))) 177 Try.f177 (.node (.node (.node (.node (.node .leaf 178 Try.f178 .leaf) 179 Try.f179 .leaf) 180 Try.f180 (.node (.node .leaf 181 Try.f181 .leaf) 182 Try.f182 .leaf)) 183 Try.f183 (.node (.node (.node .leaf 184 Try.f184 .leaf) 185 Try.f185 .leaf) 186 Try.f186 (.node (.node .leaf 187 Try.f187 .leaf) 188 Try.f188 .leaf))) 189 Try.f189 (.node (.node (.node (.node .leaf 190 Try.f190 .leaf) 191 Try.f191 .leaf) 192 Try.f192 (.node (.node .leaf 193 Try.f193 .leaf) 194 Try.f194 .leaf)) 195 Try.f195 (.node (.node (.node .leaf 196 Try.f196 .leaf) 197 Try.f197 .leaf) 198 Try.f198 (.node (.node .leaf 199 Try.f199 .leaf) 200 Try.f200 .leaf)))))))
def keepTab : KT :=
  (.node (.node (.node (.node (.node (.node (.node .leaf 4003 ([3, 12, 13, 14], []) .leaf) 4008 ([3, 5, 12, 13, 14, 29, 30, 31], [5]) (.node .leaf 4503 ([2], []) .leaf)) 4508 ([2, 3, 12, 13, 14], []) (.node (.node .leaf 6002 ([2, 3, 9, 10, 11], [2, 3]) .leaf) 6502 ([2, 3, 4], [2, 3]) (.node .leaf 21004 ([3, 29, 30, 31], [3]) .leaf))) 21007 ([3, 29, 30, 31, 37, 38, 39], [3]) (.node (.node (.node .leaf 21504 ([4], []) .leaf) 21507 ([3, 4, 29, 30, 31], [3]) (.node .leaf 26002 ([0, 6, 7], []) .leaf)) 26502 ([2, 3], []) (.node (.node .leaf 39002 ([1, 2, 5, 6], [1, 2]) .leaf) 39502 ([1, 2], [1, 2]) .leaf))) 40002 ([1, 2, 3], [1, 2]) (.node (.node (.node (.node .leaf 40502 ([1, 2], [1, 2]) .leaf) 41004 ([0, 1, 12, 13], []) (.node .leaf 41504 ([4], []) .leaf)) 42003 ([2, 3, 5, 7], [2, 3]) (.node (.node .leaf 42503 ([5], []) .leaf) 43003 ([2, 3, 5, 6], [2, 3]) .leaf)) 43503 ([5], []) (.node (.node (.node .leaf 45002 ([0, 4], []) .leaf) 45502 ([2, 3], []) (.node .leaf 54004 ([1, 2, 15, 16, 17], []) .leaf)) 54504 ([6], []) (.node (.node .leaf 57003 ([0, 2, 4, 9], [2, 4]) .leaf) 57503 ([0, 2, 3, 4], [2, 4]) .leaf)))) 58004 ([0, 2, 4, 5, 6], [2, 4]) (.node (.node (.node (.node (.node .leaf 58504 ([0, 2, 3, 4, 5], [2, 4]) .leaf) 59004 ([0, 1, 12, 13], []) (.node .leaf 59504 ([4], []) .leaf)) 60003 ([3, 6, 7], []) (.node (.node .leaf 60503 ([3], []) .leaf) 61003 ([1, 3, 4], [1]) (.node .leaf 61503 ([3], []) .leaf))) 72003 ([3, 6, 7, 8], []) (.node (.node (.node .leaf 72007 ([3], []) .leaf) 72503 ([3], []) (.node .leaf 72507 ([3], []) .leaf)) 73003 ([0, 3, 4], []) (.node (.node .leaf 73503 ([3], []) .leaf) 82003 ([2, 3, 7, 8, 9], [2, 3]) .leaf))) 82503 ([2, 3], [2, 3]) (.node (.node (.node (.node .leaf 83003 ([0, 2, 3, 4], [2, 3]) .leaf) 83503 ([2, 3], [2, 3]) (.node .leaf 84002 ([0, 10, 11, 12], []) .leaf)) 84005 ([0, 6, 10, 11, 12, 16, 17, 18], [6]) (.node (.node .leaf 84502 ([4], []) .leaf) 84505 ([0, 10, 11, 12], []) .leaf)) 85003 ([0, 5, 6], []) (.node (.node (.node .leaf 85007 ([0, 5, 6, 7, 8], []) .leaf) 85503 ([4], []) (.node .leaf 85507 ([0, 5, 6, 7], []) .leaf)) 86006 ([0, 4, 5, 7, 8], [4]) (.node (.node .leaf 86506 ([0, 2, 3, 4, 5, 7], [4]) .leaf) 87013 ([0, 4, 5, 6, 7, 8], [4]) .leaf))))) 87023 ([0, 4, 6, 7, 13], [4]) (.node (.node (.node (.node (.node (.node .leaf 87513 ([0, 2, 3, 4, 5, 6, 7], [4]) .leaf) 87523 ([2, 3, 4, 6, 7], [4]) (.node .leaf 88004 ([0, 1, 5], []) .leaf)) 88504 ([4], []) (.node (.node .leaf 89005 ([4, 14, 15, 16], []) .leaf) 89505 ([2, 3, 4], []) (.node .leaf 90005 ([0, 4, 5], []) .leaf))) 90014 ([8], []) (.node (.node (.node .leaf 90505 ([2, 3, 4], []) .leaf) 90514 ([8], []) (.node .leaf 91002 ([0, 2, 5, 6, 7], [2]) .leaf)) 91502 ([2], [2]) (.node (.node .leaf 92002 ([0, 2, 3], [2]) .leaf) 92005 ([0, 2, 3, 4], [2]) .leaf))) 92502 ([2], [2]) (.node (.node (.node (.node .leaf 92505 ([0, 2, 3], [2]) .leaf) 96002 ([3, 7, 8], [3]) (.node .leaf 96502 ([4], []) .leaf)) 106003 ([4, 5, 10, 11, 12], [4, 5]) (.node (.node .leaf 106503 ([4, 5], [4, 5]) .leaf) 110003 ([0, 2, 3, 4], [2, 3]) .leaf)) 110503 ([2, 3], [2, 3]) (.node (.node (.node .leaf 112003 ([0, 2, 3, 4], [2, 3]) .leaf) 112503 ([2, 3], [2, 3]) (.node .leaf 114004 ([0, 1, 12, 13], []) .leaf)) 114504 ([4], []) (.node (.node .leaf 115005 ([4, 6, 21, 22, 23], [4, 6]) .leaf) 115505 ([4, 6], [4, 6]) .leaf)))) 116005 ([0, 1, 4, 6, 7], [4, 6]) (.node (.node (.node (.node (.node .leaf 116505 ([4, 6], [4, 6]) .leaf) 117003 ([0, 2, 4, 7, 10], [4, 7]) (.node .leaf 117503 ([0, 2, 7], [7]) .leaf)) 118003 ([4, 7, 8], [4]) (.node (.node .leaf 118503 ([7], []) .leaf) 133005 ([0, 1, 2, 7, 15], [7]) .leaf)) 133505 ([0, 2, 7], [7]) (.node (.node (.node .leaf 134005 ([1, 7, 8], []) .leaf) 134505 ([7], []) (.node .leaf 137002 ([1, 2, 5], [2]) .leaf)) 137502 ([1, 4], []) (.node (.node .leaf 145004 ([1, 2, 15, 16, 17], []) .leaf) 145504 ([6], []) .leaf))) 146002 ([0, 1, 7, 8], []) (.node (.node (.node (.node .leaf 146502 ([4], []) .leaf) 148002 ([0, 3, 7, 8], [3]) (.node .leaf 148502 ([4], []) .leaf)) 174007 ([0, 1, 2, 8, 9], []) (.node (.node .leaf 174507 ([8], []) .leaf) 178007 ([8, 29, 30, 31], []) .leaf)) 178507 ([8], []) (.node (.node (.node .leaf 179002 ([0, 1, 7, 8], []) .leaf) 179502 ([4], []) (.node .leaf 195002 ([0, 1, 7, 8], []) .leaf)) 195502 ([4], []) (.node (.node .leaf 199002 ([0, 1, 5], []) .leaf) 199502 ([0], []) .leaf))))))
/-- a header's cells -/
def hdrC (h : Nat → Int) : List AV := [.int .u64 (h 0), .int .u64 (h 1), .int .u64 (h 2), .int .u64 (h 3), .int .u64 (h 4), .int .u64 (h 5), .int .u64 (h 6), .int .u64 (h 7), .int .u64 (h 8), .int .u64 (h 9), .int .u64 (h 10), .int .u64 (h 11), .int .u64 (h 12), .int .u64 (h 13), .int .u64 (h 14), .int .u64 (h 15), .int .u64 (h 16), .int .u64 (h 17), .int .u64 (h 18), .int .u64 (h 19), .int .u64 (h 20), .int .u64 (h 21), .int .u64 (h 22), .int .u64 (h 23), .int .u64 (h 24), .int .u64 (h 25), .int .u64 (h 26), .int .u64 (h 27), .int .u64 (h 28), .int .u64 (h 29), .int .u64 (h 30), .int .u64 (h 31), .int .u64 (h 32), .int .u64 (h 33), .int .u64 (h 34), .int .u64 (h 35), .int .u64 (h 36), .int .u64 (h 37), .int .u64 (h 38), .int .u64 (h 39), .int .u64 (h 40), .int .u64 (h 41), .int .u64 (h 42), .int .u64 (h 43), .int .u64 (h 44), .int .u64 (h 45), .int .u64 (h 46), .int .u64 (h 47)]
def isI (k : IntKind) : AV → Bool
  | .int k' _ => decide (k' = k)
  | _ => false
def intsA (k : IntKind) (xs : List AV) : Bool := xs.all (isI k)
def isHdr (cs : List AV) : Bool := cs.length == 48 && intsA .u64 cs
/-- two headers' cells are the same, field by field -/
def pairEq : List AV → List AV → Bool
  | a :: b :: cs, c :: d :: ds => (ieq a.asInt c.asInt && (ieq b.asInt d.asInt && true)) && pairEq cs ds
  | _, _ => true
theorem intsA_eq : ∀ {xs : List AV}, intsA .u64 xs = true → xs = xs.map fun v => .int .u64 v.asInt
  | [], _ => rfl
  | x :: xs, h => by
    simp only [intsA, List.all_cons, Bool.and_eq_true] at h
    cases x <;> try (cases h.1; done)
    have h1 := h.1
    simp only [isI, decide_eq_true_eq] at h1
    rw [List.map_cons, ← intsA_eq (xs := xs) h.2, h1]; rfl
theorem isHdr_eq {cs : List AV} (h : isHdr cs = true) : cs = hdrC fun j => (cs.getD j .unk).asInt := by
  simp only [isHdr, Bool.and_eq_true, beq_iff_eq] at h
  have e := intsA_eq h.2
  have hl := h.1
  apply List.ext_getElem?
  intro i
  by_cases hi : i < 48
  · have e2 : cs[i]? = some (.int .u64 (cs.getD i .unk).asInt) := by
      have h3 : cs[i]? = some cs[i] := List.getElem?_eq_getElem (by omega)
      rw [List.getD_eq_getElem?_getD, h3]
      have h4 : (cs.map fun v => AV.int .u64 v.asInt)[i]? = some (.int .u64 cs[i].asInt) := by rw [List.getElem?_map, h3]; rfl
      rw [← e, h3] at h4
      simpa using h4
    rw [e2]
    have all : ∀ (h : Nat → Int) (i : Nat), i < 48 → (hdrC h)[i]? = some (.int .u64 (h i)) := by
      intro h i hi
      match i, hi with
      | 0, _ => rfl
      | 1, _ => rfl
      | 2, _ => rfl
      | 3, _ => rfl
      | 4, _ => rfl
      | 5, _ => rfl
      | 6, _ => rfl
      | 7, _ => rfl
      | 8, _ => rfl
      | 9, _ => rfl
      | 10, _ => rfl
      | 11, _ => rfl
      | 12, _ => rfl
      | 13, _ => rfl
      | 14, _ => rfl
      | 15, _ => rfl
      | 16, _ => rfl
      | 17, _ => rfl
      | 18, _ => rfl
      | 19, _ => rfl
      | 20, _ => rfl
      | 21, _ => rfl
      | 22, _ => rfl
      | 23, _ => rfl
      | 24, _ => rfl
      | 25, _ => rfl
      | 26, _ => rfl
      | 27, _ => rfl
      | 28, _ => rfl
      | 29, _ => rfl
      | 30, _ => rfl
      | 31, _ => rfl
      | 32, _ => rfl
      | 33, _ => rfl
      | 34, _ => rfl
      | 35, _ => rfl
      | 36, _ => rfl
      | 37, _ => rfl
      | 38, _ => rfl
      | 39, _ => rfl
      | 40, _ => rfl
      | 41, _ => rfl
      | 42, _ => rfl
      | 43, _ => rfl
      | 44, _ => rfl
      | 45, _ => rfl
      | 46, _ => rfl
      | 47, _ => rfl
      | i + 48, h => omega
    rw [all _ i hi]
  · rw [List.getElem?_eq_none (by omega), List.getElem?_eq_none (by show 48 ≤ i; omega)]
/-- a cube's cells -/
def cubC (h : Nat → Int) : List AV := (List.range 96).map fun i => .int .u64 (h i)
def isCub (cs : List AV) : Bool := cs.length == 96 && intsA .u64 cs
def quadEq : List AV → List AV → Bool
  | a :: b :: c :: d :: cs, e :: f :: g :: h :: ds => ((ieq a.asInt e.asInt && (ieq b.asInt f.asInt && true)) && ((ieq c.asInt g.asInt && (ieq d.asInt h.asInt && true)) && true)) && quadEq cs ds
  | _, _ => true
theorem isCub_eq {cs : List AV} (h : isCub cs = true) : cs = cubC fun j => (cs.getD j .unk).asInt := by
  simp only [isCub, Bool.and_eq_true, beq_iff_eq] at h
  obtain ⟨h1, h2⟩ := h
  unfold cubC
  apply List.ext_getElem?
  intro i
  rw [List.getElem?_map]
  by_cases hi : i < 96
  · have h3 : cs[i]? = some cs[i] := List.getElem?_eq_getElem (by omega)
    have h4 : isI .u64 cs[i] = true := List.all_eq_true.1 h2 _ (List.getElem_mem (by omega))
    rw [List.getElem?_range hi, Option.map_some, h3]
    show some cs[i] = some (.int .u64 (cs.getD i .unk).asInt)
    rw [List.getD_eq_getElem?_getD, h3]
    simp only [Option.getD_some]
    generalize cs[i] = v at h4
    cases v <;> try (cases h4; done)
    simp only [isI, decide_eq_true_eq] at h4
    subst h4; rfl
  · rw [List.getElem?_eq_none (by omega), List.getElem?_eq_none (by simp; omega)]; rfl
def eqTab (t : TypeId) : Option ((List AV → List AV → Bool) × (List AV → Bool)) := bif Nat.beq t 39 then some (pairEq, isHdr) else bif Nat.beq t 86 then some (quadEq, isCub) else none
theorem eqTab_ok : ∀ t p, eqTab t = some p → ∀ xs ys, p.2 xs = true → p.2 ys = true → eqT tyTab.get 50 t (.agg xs) (.agg ys) = some (p.1 xs ys) := by
  intro t p h xs ys hx hy
  unfold eqTab at h
  cases ht : Nat.beq t 39 <;> rw [ht] at h <;> simp only [cond_true, cond_false] at h
  · cases ht2 : Nat.beq t 86 <;> rw [ht2] at h <;> simp only [cond_true, cond_false] at h <;> cases h
    rw [Nat.eq_of_beq_eq_true ht2]
    have key : ∀ h g : Nat → Int, eqT tyTab.get 50 86 (.agg (cubC h)) (.agg (cubC g)) = some (quadEq (cubC h) (cubC g)) := fun h g => by kernel_rfl
    rw [isCub_eq hx, isCub_eq hy]
    exact key _ _
  · cases h
    rw [Nat.eq_of_beq_eq_true ht]
    have key : ∀ h g : Nat → Int, eqT tyTab.get 50 39 (.agg (hdrC h)) (.agg (hdrC g)) = some (pairEq (hdrC h) (hdrC g)) := fun h g => by kernel_rfl
    rw [isHdr_eq hx, isHdr_eq hy]
    exact key _ _
noncomputable def book : Book := { ty := tyTab, fn := fnTab, keep := keepTab, eqs := eqTab, eqok := eqTab_ok }
theorem ty2 : tyOf Try.prog 2 = some ⟨(.int .i64), 1, 8, [(.int .i64 0)]⟩ := by kernel_rfl
theorem ty3 : tyOf Try.prog 3 = some ⟨(.int .i64), 1, 8, [(.int .i64 0)]⟩ := by kernel_rfl
theorem ty4 : tyOf Try.prog 4 = some ⟨.bool, 1, 1, [(.bool false)]⟩ := by kernel_rfl
theorem ty5 : tyOf Try.prog 5 = some ⟨(.int .u8), 1, 1, [(.int .u8 0)]⟩ := by kernel_rfl
theorem ty6 : tyOf Try.prog 6 = some ⟨(.int .u8), 1, 1, [(.int .u8 0)]⟩ := by kernel_rfl
theorem ty7 : tyOf Try.prog 7 = some ⟨(.struct [(0, 2, false), (1, 3, false), (2, 4, false), (3, 6, false)]), 4, 24, [(.int .i64 0), (.int .i64 0), (.bool false), (.int .u8 0)]⟩ := by kernel_rfl
theorem ty8 : tyOf Try.prog 8 = some ⟨(.struct [(0, 2, false), (1, 3, false), (2, 4, false), (3, 6, false)]), 4, 24, [(.int .i64 0), (.int .i64 0), (.bool false), (.int .u8 0)]⟩ := by kernel_rfl
theorem ty9 : tyOf Try.prog 9 = some ⟨.str, 1, 16, [(.str [])]⟩ := by kernel_rfl
theorem ty10 : tyOf Try.prog 10 = some ⟨.str, 1, 16, [(.str [])]⟩ := by kernel_rfl
theorem ty11 : tyOf Try.prog 11 = some ⟨.str, 1, 16, [(.str [])]⟩ := by kernel_rfl
theorem ty12 : tyOf Try.prog 12 = some ⟨(.int .u64), 1, 8, [(.int .u64 0)]⟩ := by kernel_rfl
theorem ty15 : tyOf Try.prog 15 = some ⟨(.ptr 173), 1, 8, [.nilp]⟩ := by kernel_rfl
theorem ty16 : tyOf Try.prog 16 = some ⟨(.ptr 176), 1, 8, [.nilp]⟩ := by kernel_rfl
theorem ty17 : tyOf Try.prog 17 = some ⟨(.ptr 185), 1, 8, [.nilp]⟩ := by kernel_rfl
theorem ty20 : tyOf Try.prog 20 = some ⟨.other, 1, 16, [.niliface]⟩ := by kernel_rfl
theorem ty21 : tyOf Try.prog 21 = some ⟨(.int .i32), 1, 4, [(.int .i32 0)]⟩ := by kernel_rfl
theorem ty28 : tyOf Try.prog 28 = some ⟨(.slice 32), 1, 24, [(.sl 0 [] .nil)]⟩ := by kernel_rfl
theorem ty30 : tyOf Try.prog 30 = some ⟨(.slice 36), 1, 24, [(.sl 0 [] .nil)]⟩ := by kernel_rfl
theorem ty31 : tyOf Try.prog 31 = some ⟨(.struct [(0, 3, false), (1, 30, false)]), 2, 32, [(.int .i64 0), (.sl 0 [] .nil)]⟩ := by kernel_rfl
theorem ty32 : tyOf Try.prog 32 = some ⟨(.struct [(0, 3, false), (1, 30, false)]), 2, 32, [(.int .i64 0), (.sl 0 [] .nil)]⟩ := by kernel_rfl
theorem ty34 : tyOf Try.prog 34 = some ⟨(.int .u64), 1, 8, [(.int .u64 0)]⟩ := by kernel_rfl
theorem ty35 : tyOf Try.prog 35 = some ⟨(.struct [(0, 34, false), (1, 34, false)]), 2, 16, [(.int .u64 0), (.int .u64 0)]⟩ := by kernel_rfl
theorem ty36 : tyOf Try.prog 36 = some ⟨(.struct [(0, 34, false), (1, 34, false)]), 2, 16, [(.int .u64 0), (.int .u64 0)]⟩ := by kernel_rfl
theorem ty38 : tyOf Try.prog 38 = some ⟨(.arr 24 36), 48, 384, [(.int .u64 0), (.int .u64 0), (.int .u64 0), (.int .u64 0), (.int .u64 0), (.int .u64 0), (.int .u64 0), (.int .u64 0), (.int .u64 0), (.int .u64 0), (.int .u64 0), (.int .u64 0), (.int .u64 0), (.int .u64 0), (.int .u64 0), (.int .u64 0), (.int .u64 0), (.int .u64 0), (.int .u64 0), (.int .u64 0), (.int .u64 0), (.int .u64 0), (.int .u64 0), (.int .u64 0), (.int .u64 0), (.int .u64 0), (.int .u64 0), (.int .u64 0), (.int .u64 0), (.int .u64 0), (.int .u64 0), (.int .u64 0), (.int .u64 0), (.int .u64 0), (.int .u64 0), (.int .u64 0), (.int .u64 0), (.int .u64 0), (.int .u64 0), (.int .u64 0), (.int .u64 0), (.int .u64 0), (.int .u64 0), (.int .u64 0), (.int .u64 0), (.int .u64 0), (.int .u64 0), (.int .u64 0)]⟩ := by kernel_rfl
theorem ty39 : tyOf Try.prog 39 = some ⟨(.arr 24 36), 48, 384, [(.int .u64 0), (.int .u64 0), (.int .u64 0), (.int .u64 0), (.int .u64 0), (.int .u64 0), (.int .u64 0), (.int .u64 0), (.int .u64 0), (.int .u64 0), (.int .u64 0), (.int .u64 0), (.int .u64 0), (.int .u64 0), (.int .u64 0), (.int .u64 0), (.int .u64 0), (.int .u64 0), (.int .u64 0), (.int .u64 0), (.int .u64 0), (.int .u64 0), (.int .u64 0), (.int .u64 0), (.int .u64 0), (.int .u64 0), (.int .u64 0), (.int .u64 0), (.int .u64 0), (.int .u64 0), (.int .u64 0), (.int .u64 0), (.int .u64 0), (.int .u64 0), (.int .u64 0), (.int .u64 0), (.int .u64 0), (.int .u64 0), (.int .u64 0), (.int .u64 0), (.int .u64 0), (.int .u64 0), (.int .u64 0), (.int .u64 0), (.int .u64 0), (.int .u64 0), (.int .u64 0), (.int .u64 0)]⟩ := by kernel_rfl
theorem ty45 : tyOf Try.prog 45 = some ⟨(.slice 3), 1, 24, [(.sl 0 [] .nil)]⟩ := by kernel_rfl
theorem ty52 : tyOf Try.prog 52 = some ⟨(.slice 5), 1, 24, [(.sl 0 [] .nil)]⟩ := by kernel_rfl
theorem ty53 : tyOf Try.prog 53 = some ⟨(.int .i64), 1, 8, [(.int .i64 0)]⟩ := by kernel_rfl
theorem ty59 : tyOf Try.prog 59 = some ⟨(.struct [(0, 3, false), (1, 4, false), (2, 36, false), (4, 36, false)]), 6, 48, [(.int .i64 0), (.bool false), (.int .u64 0), (.int .u64 0), (.int .u64 0), (.int .u64 0)]⟩ := by kernel_rfl
theorem ty60 : tyOf Try.prog 60 = some ⟨(.struct [(0, 3, false), (1, 4, false), (2, 36, false), (4, 36, false)]), 6, 48, [(.int .i64 0), (.bool false), (.int .u64 0), (.int .u64 0), (.int .u64 0), (.int .u64 0)]⟩ := by kernel_rfl
theorem ty61 : tyOf Try.prog 61 = some ⟨(.struct [(0, 4, false), (1, 3, false), (2, 3, false)]), 3, 24, [(.bool false), (.int .i64 0), (.int .i64 0)]⟩ := by kernel_rfl
theorem ty62 : tyOf Try.prog 62 = some ⟨(.struct [(0, 4, false), (1, 3, false), (2, 3, false)]), 3, 24, [(.bool false), (.int .i64 0), (.int .i64 0)]⟩ := by kernel_rfl
theorem ty67 : tyOf Try.prog 67 = some ⟨(.struct [(0, 36, false), (2, 36, false)]), 4, 32, [(.int .u64 0), (.int .u64 0), (.int .u64 0), (.int .u64 0)]⟩ := by kernel_rfl
theorem ty68 : tyOf Try.prog 68 = some ⟨(.struct [(0, 36, false), (2, 36, false)]), 4, 32, [(.int .u64 0), (.int .u64 0), (.int .u64 0), (.int .u64 0)]⟩ := by kernel_rfl
theorem ty74 : tyOf Try.prog 74 = some ⟨(.int .u16), 1, 2, [(.int .u16 0)]⟩ := by kernel_rfl
theorem ty76 : tyOf Try.prog 76 = some ⟨(.int .u64), 1, 8, [(.int .u64 0)]⟩ := by kernel_rfl
theorem ty84 : tyOf Try.prog 84 = some ⟨(.slice 60), 1, 24, [(.sl 0 [] .nil)]⟩ := by kernel_rfl
theorem ty85 : tyOf Try.prog 85 = some ⟨(.arr 24 68), 96, 768, [(.int .u64 0), (.int .u64 0), (.int .u64 0), (.int .u64 0), (.int .u64 0), (.int .u64 0), (.int .u64 0), (.int .u64 0), (.int .u64 0), (.int .u64 0), (.int .u64 0), (.int .u64 0), (.int .u64 0), (.int .u64 0), (.int .u64 0), (.int .u64 0), (.int .u64 0), (.int .u64 0), (.int .u64 0), (.int .u64 0), (.int .u64 0), (.int .u64 0), (.int .u64 0), (.int .u64 0), (.int .u64 0), (.int .u64 0), (.int .u64 0), (.int .u64 0), (.int .u64 0), (.int .u64 0), (.int .u64 0), (.int .u64 0), (.int .u64 0), (.int .u64 0), (.int .u64 0), (.int .u64 0), (.int .u64 0), (.int .u64 0), (.int .u64 0), (.int .u64 0), (.int .u64 0), (.int .u64 0), (.int .u64 0), (.int .u64 0), (.int .u64 0), (.int .u64 0), (.int .u64 0), (.int .u64 0), (.int .u64 0), (.int .u64 0), (.int .u64 0), (.int .u64 0), (.int .u64 0), (.int .u64 0), (.int .u64 0), (.int .u64 0), (.int .u64 0), (.int .u64 0), (.int .u64 0), (.int .u64 0), (.int .u64 0), (.int .u64 0), (.int .u64 0), (.int .u64 0), (.int .u64 0), (.int .u64 0), (.int .u64 0), (.int .u64 0), (.int .u64 0), (.int .u64 0), (.int .u64 0), (.int .u64 0), (.int .u64 0), (.int .u64 0), (.int .u64 0), (.int .u64 0), (.int .u64 0), (.int .u64 0), (.int .u64 0), (.int .u64 0), (.int .u64 0), (.int .u64 0), (.int .u64 0), (.int .u64 0), (.int .u64 0), (.int .u64 0), (.int .u64 0), (.int .u64 0), (.int .u64 0), (.int .u64 0), (.int .u64 0), (.int .u64 0), (.int .u64 0), (.int .u64 0), (.int .u64 0), (.int .u64 0)]⟩ := by kernel_rfl
theorem ty86 : tyOf Try.prog 86 = some ⟨(.arr 24 68), 96, 768, [(.int .u64 0), (.int .u64 0), (.int .u64 0), (.int .u64 0), (.int .u64 0), (.int .u64 0), (.int .u64 0), (.int .u64 0), (.int .u64 0), (.int .u64 0), (.int .u64 0), (.int .u64 0), (.int .u64 0), (.int .u64 0), (.int .u64 0), (.int .u64 0), (.int .u64 0), (.int .u64 0), (.int .u64 0), (.int .u64 0), (.int .u64 0), (.int .u64 0), (.int .u64 0), (.int .u64 0), (.int .u64 0), (.int .u64 0), (.int .u64 0), (.int .u64 0), (.int .u64 0), (.int .u64 0), (.int .u64 0), (.int .u64 0), (.int .u64 0), (.int .u64 0), (.int .u64 0), (.int .u64 0), (.int .u64 0), (.int .u64 0), (.int .u64 0), (.int .u64 0), (.int .u64 0), (.int .u64 0), (.int .u64 0), (.int .u64 0), (.int .u64 0), (.int .u64 0), (.int .u64 0), (.int .u64 0), (.int .u64 0), (.int .u64 0), (.int .u64 0), (.int .u64 0), (.int .u64 0), (.int .u64 0), (.int .u64 0), (.int .u64 0), (.int .u64 0), (.int .u64 0), (.int .u64 0), (.int .u64 0), (.int .u64 0), (.int .u64 0), (.int .u64 0), (.int .u64 0), (.int .u64 0), (.int .u64 0), (.int .u64 0), (.int .u64 0), (.int .u64 0), (.int .u64 0), (.int .u64 0), (.int .u64 0), (.int .u64 0), (.int .u64 0), (.int .u64 0), (.int .u64 0), (.int .u64 0), (.int .u64 0), (.int .u64 0), (.int .u64 0), (.int .u64 0), (.int .u64 0), (.int .u64 0), (.int .u64 0), (.int .u64 0), (.int .u64 0), (.int .u64 0), (.int .u64 0), (.int .u64 0), (.int .u64 0), (.int .u64 0), (.int .u64 0), (.int .u64 0), (.int .u64 0), (.int .u64 0), (.int .u64 0)]⟩ := by kernel_rfl
theorem ty100 : tyOf Try.prog 100 = some ⟨(.struct [(0, 9, false), (1, 3, false), (2, 3, false), (3, 4, false)]), 4, 40, [(.str []), (.int .i64 0), (.int .i64 0), (.bool false)]⟩ := by kernel_rfl
theorem ty101 : tyOf Try.prog 101 = some ⟨(.struct [(0, 9, false), (1, 3, false), (2, 3, false), (3, 4, false)]), 4, 40, [(.str []), (.int .i64 0), (.int .i64 0), (.bool false)]⟩ := by kernel_rfl
theorem ty102 : tyOf Try.prog 102 = some ⟨(.arr 24 101), 96, 960, [(.str []), (.int .i64 0), (.int .i64 0), (.bool false), (.str []), (.int .i64 0), (.int .i64 0), (.bool false), (.str []), (.int .i64 0), (.int .i64 0), (.bool false), (.str []), (.int .i64 0), (.int .i64 0), (.bool false), (.str []), (.int .i64 0), (.int .i64 0), (.bool false), (.str []), (.int .i64 0), (.int .i64 0), (.bool false), (.str []), (.int .i64 0), (.int .i64 0), (.bool false), (.str []), (.int .i64 0), (.int .i64 0), (.bool false), (.str []), (.int .i64 0), (.int .i64 0), (.bool false), (.str []), (.int .i64 0), (.int .i64 0), (.bool false), (.str []), (.int .i64 0), (.int .i64 0), (.bool false), (.str []), (.int .i64 0), (.int .i64 0), (.bool false), (.str []), (.int .i64 0), (.int .i64 0), (.bool false), (.str []), (.int .i64 0), (.int .i64 0), (.bool false), (.str []), (.int .i64 0), (.int .i64 0), (.bool false), (.str []), (.int .i64 0), (.int .i64 0), (.bool false), (.str []), (.int .i64 0), (.int .i64 0), (.bool false), (.str []), (.int .i64 0), (.int .i64 0), (.bool false), (.str []), (.int .i64 0), (.int .i64 0), (.bool false), (.str []), (.int .i64 0), (.int .i64 0), (.bool false), (.str []), (.int .i64 0), (.int .i64 0), (.bool false), (.str []), (.int .i64 0), (.int .i64 0), (.bool false), (.str []), (.int .i64 0), (.int .i64 0), (.bool false), (.str []), (.int .i64 0), (.int .i64 0), (.bool false)]⟩ := by kernel_rfl
theorem ty107 : tyOf Try.prog 107 = some ⟨(.slice 34), 1, 24, [(.sl 0 [] .nil)]⟩ := by kernel_rfl
theorem ty117 : tyOf Try.prog 117 = some ⟨(.int .i64), 1, 8, [(.int .i64 0)]⟩ := by kernel_rfl
theorem ty123 : tyOf Try.prog 123 = some ⟨(.ptr 125), 1, 8, [.nilp]⟩ := by kernel_rfl
theorem ty124 : tyOf Try.prog 124 = some ⟨(.struct [(0, 39, false), (48, 52, false)]), 49, 408, [(.int .u64 0), (.int .u64 0), (.int .u64 0), (.int .u64 0), (.int .u64 0), (.int .u64 0), (.int .u64 0), (.int .u64 0), (.int .u64 0), (.int .u64 0), (.int .u64 0), (.int .u64 0), (.int .u64 0), (.int .u64 0), (.int .u64 0), (.int .u64 0), (.int .u64 0), (.int .u64 0), (.int .u64 0), (.int .u64 0), (.int .u64 0), (.int .u64 0), (.int .u64 0), (.int .u64 0), (.int .u64 0), (.int .u64 0), (.int .u64 0), (.int .u64 0), (.int .u64 0), (.int .u64 0), (.int .u64 0), (.int .u64 0), (.int .u64 0), (.int .u64 0), (.int .u64 0), (.int .u64 0), (.int .u64 0), (.int .u64 0), (.int .u64 0), (.int .u64 0), (.int .u64 0), (.int .u64 0), (.int .u64 0), (.int .u64 0), (.int .u64 0), (.int .u64 0), (.int .u64 0), (.int .u64 0), (.sl 0 [] .nil)]⟩ := by kernel_rfl
theorem ty125 : tyOf Try.prog 125 = some ⟨(.struct [(0, 39, false), (48, 52, false)]), 49, 408, [(.int .u64 0), (.int .u64 0), (.int .u64 0), (.int .u64 0), (.int .u64 0), (.int .u64 0), (.int .u64 0), (.int .u64 0), (.int .u64 0), (.int .u64 0), (.int .u64 0), (.int .u64 0), (.int .u64 0), (.int .u64 0), (.int .u64 0), (.int .u64 0), (.int .u64 0), (.int .u64 0), (.int .u64 0), (.int .u64 0), (.int .u64 0), (.int .u64 0), (.int .u64 0), (.int .u64 0), (.int .u64 0), (.int .u64 0), (.int .u64 0), (.int .u64 0), (.int .u64 0), (.int .u64 0), (.int .u64 0), (.int .u64 0), (.int .u64 0), (.int .u64 0), (.int .u64 0), (.int .u64 0), (.int .u64 0), (.int .u64 0), (.int .u64 0), (.int .u64 0), (.int .u64 0), (.int .u64 0), (.int .u64 0), (.int .u64 0), (.int .u64 0), (.int .u64 0), (.int .u64 0), (.int .u64 0), (.sl 0 [] .nil)]⟩ := by kernel_rfl
theorem ty142 : tyOf Try.prog 142 = some ⟨(.ptr 144), 1, 8, [.nilp]⟩ := by kernel_rfl
theorem ty143 : tyOf Try.prog 143 = some ⟨(.struct [(0, 39, false), (48, 52, false)]), 49, 408, [(.int .u64 0), (.int .u64 0), (.int .u64 0), (.int .u64 0), (.int .u64 0), (.int .u64 0), (.int .u64 0), (.int .u64 0), (.int .u64 0), (.int .u64 0), (.int .u64 0), (.int .u64 0), (.int .u64 0), (.int .u64 0), (.int .u64 0), (.int .u64 0), (.int .u64 0), (.int .u64 0), (.int .u64 0), (.int .u64 0), (.int .u64 0), (.int .u64 0), (.int .u64 0), (.int .u64 0), (.int .u64 0), (.int .u64 0), (.int .u64 0), (.int .u64 0), (.int .u64 0), (.int .u64 0), (.int .u64 0), (.int .u64 0), (.int .u64 0), (.int .u64 0), (.int .u64 0), (.int .u64 0), (.int .u64 0), (.int .u64 0), (.int .u64 0), (.int .u64 0), (.int .u64 0), (.int .u64 0), (.int .u64 0), (.int .u64 0), (.int .u64 0), (.int .u64 0), (.int .u64 0), (.int .u64 0), (.sl 0 [] .nil)]⟩ := by kernel_rfl
theorem ty144 : tyOf Try.prog 144 = some ⟨(.struct [(0, 39, false), (48, 52, false)]), 49, 408, [(.int .u64 0), (.int .u64 0), (.int .u64 0), (.int .u64 0), (.int .u64 0), (.int .u64 0), (.int .u64 0), (.int .u64 0), (.int .u64 0), (.int .u64 0), (.int .u64 0), (.int .u64 0), (.int .u64 0), (.int .u64 0), (.int .u64 0), (.int .u64 0), (.int .u64 0), (.int .u64 0), (.int .u64 0), (.int .u64 0), (.int .u64 0), (.int .u64 0), (.int .u64 0), (.int .u64 0), (.int .u64 0), (.int .u64 0), (.int .u64 0), (.int .u64 0), (.int .u64 0), (.int .u64 0), (.int .u64 0), (.int .u64 0), (.int .u64 0), (.int .u64 0), (.int .u64 0), (.int .u64 0), (.int .u64 0), (.int .u64 0), (.int .u64 0), (.int .u64 0), (.int .u64 0), (.int .u64 0), (.int .u64 0), (.int .u64 0), (.int .u64 0), (.int .u64 0), (.int .u64 0), (.int .u64 0), (.sl 0 [] .nil)]⟩ := by kernel_rfl
theorem ty149 : tyOf Try.prog 149 = some ⟨(.arr 16 5), 16, 16, [(.int .u8 0), (.int .u8 0), (.int .u8 0), (.int .u8 0), (.int .u8 0), (.int .u8 0), (.int .u8 0), (.int .u8 0), (.int .u8 0), (.int .u8 0), (.int .u8 0), (.int .u8 0), (.int .u8 0), (.int .u8 0), (.int .u8 0), (.int .u8 0)]⟩ := by kernel_rfl
theorem ty156 : tyOf Try.prog 156 = some ⟨(.arr 4 5), 4, 4, [(.int .u8 0), (.int .u8 0), (.int .u8 0), (.int .u8 0)]⟩ := by kernel_rfl
theorem ty165 : tyOf Try.prog 165 = some ⟨(.arr 6 5), 6, 6, [(.int .u8 0), (.int .u8 0), (.int .u8 0), (.int .u8 0), (.int .u8 0), (.int .u8 0)]⟩ := by kernel_rfl
theorem ty170 : tyOf Try.prog 170 = some ⟨(.arr 2 34), 2, 16, [(.int .u64 0), (.int .u64 0)]⟩ := by kernel_rfl
theorem ty174 : tyOf Try.prog 174 = some ⟨(.arr 0 16), 0, 0, []⟩ := by kernel_rfl
theorem ty177 : tyOf Try.prog 177 = some ⟨(.int .u32), 1, 4, [(.int .u32 0)]⟩ := by kernel_rfl
theorem ty178 : tyOf Try.prog 178 = some ⟨(.int .u8), 1, 1, [(.int .u8 0)]⟩ := by kernel_rfl
theorem ty179 : tyOf Try.prog 179 = some ⟨(.int .u8), 1, 1, [(.int .u8 0)]⟩ := by kernel_rfl
theorem ty181 : tyOf Try.prog 181 = some ⟨(.ptr 5), 1, 8, [.nilp]⟩ := by kernel_rfl
theorem ty182 : tyOf Try.prog 182 = some ⟨(.int .i32), 1, 4, [(.int .i32 0)]⟩ := by kernel_rfl
theorem ty183 : tyOf Try.prog 183 = some ⟨(.int .i32), 1, 4, [(.int .i32 0)]⟩ := by kernel_rfl
theorem ty186 : tyOf Try.prog 186 = some ⟨.other, 1, 8, [.nilp]⟩ := by kernel_rfl
theorem nm3 : (Try.f3.name == "runtime.NumGoroutine") = false := by kernel_rfl
theorem nm4 : (Try.f4.name == "runtime.NumGoroutine") = false := by kernel_rfl
theorem nm5 : (Try.f5.name == "runtime.NumGoroutine") = false := by kernel_rfl
theorem nm6 : (Try.f6.name == "runtime.NumGoroutine") = false := by kernel_rfl
theorem nm7 : (Try.f7.name == "runtime.NumGoroutine") = false := by kernel_rfl
theorem nm8 : (Try.f8.name == "runtime.NumGoroutine") = false := by kernel_rfl
theorem nm9 : (Try.f9.name == "runtime.NumGoroutine") = false := by kernel_rfl
theorem nm10 : (Try.f10.name == "runtime.NumGoroutine") = false := by kernel_rfl
theorem nm11 : (Try.f11.name == "runtime.NumGoroutine") = false := by kernel_rfl
theorem nm12 : (Try.f12.name == "runtime.NumGoroutine") = false := by kernel_rfl
theorem nm13 : (Try.f13.name == "runtime.NumGoroutine") = false := by kernel_rfl
theorem nm14 : (Try.f14.name == "runtime.NumGoroutine") = false := by kernel_rfl
theorem nm15 : (Try.f15.name == "runtime.NumGoroutine") = false := by kernel_rfl
theorem nm16 : (Try.f16.name == "runtime.NumGoroutine") = false := by kernel_rfl
theorem nm17 : (Try.f17.name == "runtime.NumGoroutine") = false := by kernel_rfl
theorem nm18 : (Try.f18.name == "runtime.NumGoroutine") = false := by kernel_rfl
theorem nm19 : (Try.f19.name == "runtime.NumGoroutine") = false := by kernel_rfl
theorem nm20 : (Try.f20.name == "runtime.NumGoroutine") = false := by kernel_rfl
theorem nm21 : (Try.f21.name == "runtime.NumGoroutine") = false := by kernel_rfl
theorem nm22 : (Try.f22.name == "runtime.NumGoroutine") = false := by kernel_rfl
theorem nm23 : (Try.f23.name == "runtime.NumGoroutine") = false := by kernel_rfl
theorem nm24 : (Try.f24.name == "runtime.NumGoroutine") = false := by kernel_rfl
theorem nm25 : (Try.f25.name == "runtime.NumGoroutine") = false := by kernel_rfl
theorem nm26 : (Try.f26.name == "runtime.NumGoroutine") = false := by kernel_rfl
theorem nm27 : (Try.f27.name == "runtime.NumGoroutine") = false := by kernel_rfl
theorem nm28 : (Try.f28.name == "runtime.NumGoroutine") = false := by kernel_rfl
theorem nm29 : (Try.f29.name == "runtime.NumGoroutine") = false := by kernel_rfl
theorem nm30 : (Try.f30.name == "runtime.NumGoroutine") = false := by kernel_rfl
theorem nm31 : (Try.f31.name == "runtime.NumGoroutine") = false := by kernel_rfl
theorem nm32 : (Try.f32.name == "runtime.NumGoroutine") = false := by kernel_rfl
theorem nm33 : (Try.f33.name == "runtime.NumGoroutine") = false := by kernel_rfl
theorem nm34 : (Try.f34.name == "runtime.NumGoroutine") = false := by kernel_rfl
theorem nm35 : (Try.f35.name == "runtime.NumGoroutine") = false := by kernel_rfl
theorem nm36 : (Try.f36.name == "runtime.NumGoroutine") = false := by kernel_rfl
theorem nm37 : (Try.f37.name == "runtime.NumGoroutine") = false := by kernel_rfl
theorem nm38 : (Try.f38.name == "runtime.NumGoroutine") = false := by kernel_rfl
theorem nm39 : (Try.f39.name == "runtime.NumGoroutine") = false := by kernel_rfl
theorem nm40 : (Try.f40.name == "runtime.NumGoroutine") = false := by kernel_rfl
theorem nm41 : (Try.f41.name == "runtime.NumGoroutine") = false := by kernel_rfl
theorem nm42 : (Try.f42.name == "runtime.NumGoroutine") = false := by kernel_rfl
theorem nm43 : (Try.f43.name == "runtime.NumGoroutine") = false := by kernel_rfl
theorem nm44 : (Try.f44.name == "runtime.NumGoroutine") = false := by kernel_rfl
theorem nm45 : (Try.f45.name == "runtime.NumGoroutine") = false := by kernel_rfl
theorem nm46 : (Try.f46.name == "runtime.NumGoroutine") = false := by kernel_rfl
theorem nm47 : (Try.f47.name == "runtime.NumGoroutine") = false := by kernel_rfl
theorem nm48 : (Try.f48.name == "runtime.NumGoroutine") = false := by kernel_rfl
theorem nm49 : (Try.f49.name == "runtime.NumGoroutine") = false := by kernel_rfl
theorem nm50 : (Try.f50.name == "runtime.NumGoroutine") = false := by kernel_rfl
theorem nm51 : (Try.f51.name == "runtime.NumGoroutine") = false := by kernel_rfl
theorem nm52 : (Try.f52.name == "runtime.NumGoroutine") = false := by kernel_rfl
theorem nm53 : (Try.f53.name == "runtime.NumGoroutine") = false := by kernel_rfl
theorem nm54 : (Try.f54.name == "runtime.NumGoroutine") = false := by kernel_rfl
theorem nm55 : (Try.f55.name == "runtime.NumGoroutine") = false := by kernel_rfl
theorem nm56 : (Try.f56.name == "runtime.NumGoroutine") = false := by kernel_rfl
theorem nm57 : (Try.f57.name == "runtime.NumGoroutine") = false := by kernel_rfl
theorem nm58 : (Try.f58.name == "runtime.NumGoroutine") = false := by kernel_rfl
theorem nm59 : (Try.f59.name == "runtime.NumGoroutine") = false := by kernel_rfl
theorem nm60 : (Try.f60.name == "runtime.NumGoroutine") = false := by kernel_rfl
theorem nm61 : (Try.f61.name == "runtime.NumGoroutine") = false := by kernel_rfl
theorem nm62 : (Try.f62.name == "runtime.NumGoroutine") = false := by kernel_rfl
theorem nm63 : (Try.f63.name == "runtime.NumGoroutine") = false := by kernel_rfl
theorem nm64 : (Try.f64.name == "runtime.NumGoroutine") = false := by kernel_rfl
theorem nm65 : (Try.f65.name == "runtime.NumGoroutine") = false := by kernel_rfl
theorem nm66 : (Try.f66.name == "runtime.NumGoroutine") = false := by kernel_rfl
theorem nm67 : (Try.f67.name == "runtime.NumGoroutine") = false := by kernel_rfl
theorem nm68 : (Try.f68.name == "runtime.NumGoroutine") = false := by kernel_rfl
theorem nm69 : (Try.f69.name == "runtime.NumGoroutine") = false := by kernel_rfl
theorem nm70 : (Try.f70.name == "runtime.NumGoroutine") = false := by kernel_rfl
theorem nm71 : (Try.f71.name == "runtime.NumGoroutine") = false := by kernel_rfl
theorem nm72 : (Try.f72.name == "runtime.NumGoroutine") = false := by kernel_rfl
theorem nm73 : (Try.f73.name == "runtime.NumGoroutine") = false := by kernel_rfl
theorem nm74 : (Try.f74.name == "runtime.NumGoroutine") = false := by kernel_rfl
theorem nm75 : (Try.f75.name == "runtime.NumGoroutine") = false := by kernel_rfl
theorem nm76 : (Try.f76.name == "runtime.NumGoroutine") = false := by kernel_rfl
theorem nm77 : (Try.f77.name == "runtime.NumGoroutine") = false := by kernel_rfl
theorem nm78 : (Try.f78.name == "runtime.NumGoroutine") = false := by kernel_rfl
theorem nm79 : (Try.f79.name == "runtime.NumGoroutine") = false := by kernel_rfl
theorem nm80 : (Try.f80.name == "runtime.NumGoroutine") = false := by kernel_rfl
theorem nm81 : (Try.f81.name == "runtime.NumGoroutine") = false := by kernel_rfl
theorem nm82 : (Try.f82.name == "runtime.NumGoroutine") = false := by kernel_rfl
theorem nm83 : (Try.f83.name == "runtime.NumGoroutine") = false := by kernel_rfl
theorem nm84 : (Try.f84.name == "runtime.NumGoroutine") = false := by kernel_rfl
theorem nm85 : (Try.f85.name == "runtime.NumGoroutine") = false := by kernel_rfl
theorem nm86 : (Try.f86.name == "runtime.NumGoroutine") = false := by kernel_rfl
theorem nm87 : (Try.f87.name == "runtime.NumGoroutine") = false := by kernel_rfl
theorem nm88 : (Try.f88.name == "runtime.NumGoroutine") = false := by kernel_rfl
theorem nm89 : (Try.f89.name == "runtime.NumGoroutine") = false := by kernel_rfl
theorem nm90 : (Try.f90.name == "runtime.NumGoroutine") = false := by kernel_rfl
theorem nm91 : (Try.f91.name == "runtime.NumGoroutine") = false := by kernel_rfl
theorem nm92 : (Try.f92.name == "runtime.NumGoroutine") = false := by kernel_rfl
theorem nm93 : (Try.f93.name == "runtime.NumGoroutine") = false := by kernel_rfl
theorem nm94 : (Try.f94.name == "runtime.NumGoroutine") = false := by kernel_rfl
theorem nm95 : (Try.f95.name == "runtime.NumGoroutine") = false := by kernel_rfl
theorem nm96 : (Try.f96.name == "runtime.NumGoroutine") = false := by kernel_rfl
theorem nm97 : (Try.f97.name == "runtime.NumGoroutine") = false := by kernel_rfl
theorem nm98 : (Try.f98.name == "runtime.NumGoroutine") = false := by kernel_rfl
theorem nm99 : (Try.f99.name == "runtime.NumGoroutine") = false := by kernel_rfl
theorem nm100 : (Try.f100.name == "runtime.NumGoroutine") = false := by kernel_rfl
theorem nm101 : (Try.f101.name == "runtime.NumGoroutine") = false := by kernel_rfl
theorem nm102 : (Try.f102.name == "runtime.NumGoroutine") = false := by kernel_rfl
theorem nm103 : (Try.f103.name == "runtime.NumGoroutine") = false := by kernel_rfl
theorem nm104 : (Try.f104.name == "runtime.NumGoroutine") = false := by kernel_rfl
theorem nm105 : (Try.f105.name == "runtime.NumGoroutine") = false := by kernel_rfl
theorem nm106 : (Try.f106.name == "runtime.NumGoroutine") = false := by kernel_rfl
theorem nm107 : (Try.f107.name == "runtime.NumGoroutine") = false := by kernel_rfl
theorem nm108 : (Try.f108.name == "runtime.NumGoroutine") = false := by kernel_rfl
theorem nm109 : (Try.f109.name == "runtime.NumGoroutine") = false := by kernel_rfl
theorem nm110 : (Try.f110.name == "runtime.NumGoroutine") = false := by kernel_rfl
theorem nm111 : (Try.f111.name == "runtime.NumGoroutine") = false := by kernel_rfl
theorem nm112 : (Try.f112.name == "runtime.NumGoroutine") = false := by kernel_rfl
theorem nm113 : (Try.f113.name == "runtime.NumGoroutine") = false := by kernel_rfl
theorem nm114 : (Try.f114.name == "runtime.NumGoroutine") = false := by kernel_rfl
theorem nm115 : (Try.f115.name == "runtime.NumGoroutine") = false := by kernel_rfl
theorem nm116 : (Try.f116.name == "runtime.NumGoroutine") = false := by kernel_rfl
theorem nm117 : (Try.f117.name == "runtime.NumGoroutine") = false := by kernel_rfl
theorem nm118 : (Try.f118.name == "runtime.NumGoroutine") = false := by kernel_rfl
theorem nm119 : (Try.f119.name == "runtime.NumGoroutine") = false := by kernel_rfl
theorem nm120 : (Try.f120.name == "runtime.NumGoroutine") = false := by kernel_rfl
theorem nm121 : (Try.f121.name == "runtime.NumGoroutine") = false := by kernel_rfl
theorem nm122 : (Try.f122.name == "runtime.NumGoroutine") = false := by kernel_rfl
theorem nm123 : (Try.f123.name == "runtime.NumGoroutine") = false := by kernel_rfl
theorem nm124 : (Try.f124.name == "runtime.NumGoroutine") = false := by kernel_rfl
theorem nm125 : (Try.f125.name == "runtime.NumGoroutine") = false := by kernel_rfl
theorem nm126 : (Try.f126.name == "runtime.NumGoroutine") = false := by kernel_rfl
theorem nm127 : (Try.f127.name == "runtime.NumGoroutine") = false := by kernel_rfl
theorem nm128 : (Try.f128.name == "runtime.NumGoroutine") = false := by kernel_rfl
theorem nm129 : (Try.f129.name == "runtime.NumGoroutine") = false := by kernel_rfl
theorem nm130 : (Try.f130.name == "runtime.NumGoroutine") = false := by kernel_rfl
theorem nm131 : (Try.f131.name == "runtime.NumGoroutine") = false := by kernel_rfl
theorem nm132 : (Try.f132.name == "runtime.NumGoroutine") = false := by kernel_rfl
theorem nm133 : (Try.f133.name == "runtime.NumGoroutine") = false := by kernel_rfl
theorem nm134 : (Try.f134.name == "runtime.NumGoroutine") = false := by kernel_rfl
theorem nm135 : (Try.f135.name == "runtime.NumGoroutine") = false := by kernel_rfl
theorem nm136 : (Try.f136.name == "runtime.NumGoroutine") = false := by kernel_rfl
theorem nm137 : (Try.f137.name == "runtime.NumGoroutine") = false := by kernel_rfl
theorem nm138 : (Try.f138.name == "runtime.NumGoroutine") = false := by kernel_rfl
theorem nm139 : (Try.f139.name == "runtime.NumGoroutine") = false := by kernel_rfl
theorem nm140 : (Try.f140.name == "runtime.NumGoroutine") = false := by kernel_rfl
theorem nm141 : (Try.f141.name == "runtime.NumGoroutine") = false := by kernel_rfl
theorem nm142 : (Try.f142.name == "runtime.NumGoroutine") = false := by kernel_rfl
theorem nm143 : (Try.f143.name == "runtime.NumGoroutine") = false := by kernel_rfl
theorem nm144 : (Try.f144.name == "runtime.NumGoroutine") = false := by kernel_rfl
theorem nm145 : (Try.f145.name == "runtime.NumGoroutine") = false := by kernel_rfl
theorem nm146 : (Try.f146.name == "runtime.NumGoroutine") = false := by kernel_rfl
theorem nm147 : (Try.f147.name == "runtime.NumGoroutine") = false := by kernel_rfl
theorem nm148 : (Try.f148.name == "runtime.NumGoroutine") = false := by kernel_rfl
theorem nm149 : (Try.f149.name == "runtime.NumGoroutine") = false := by kernel_rfl
theorem nm150 : (Try.f150.name == "runtime.NumGoroutine") = false := by kernel_rfl
theorem nm151 : (Try.f151.name == "runtime.NumGoroutine") = false := by kernel_rfl
theorem nm152 : (Try.f152.name == "runtime.NumGoroutine") = false := by kernel_rfl
theorem nm153 : (Try.f153.name == "runtime.NumGoroutine") = false := by kernel_rfl
theorem nm154 : (Try.f154.name == "runtime.NumGoroutine") = false := by kernel_rfl
theorem nm155 : (Try.f155.name == "runtime.NumGoroutine") = false := by kernel_rfl
theorem nm156 : (Try.f156.name == "runtime.NumGoroutine") = false := by kernel_rfl
theorem nm157 : (Try.f157.name == "runtime.NumGoroutine") = false := by kernel_rfl
theorem nm158 : (Try.f158.name == "runtime.NumGoroutine") = false := by kernel_rfl
theorem nm159 : (Try.f159.name == "runtime.NumGoroutine") = false := by kernel_rfl
theorem nm160 : (Try.f160.name == "runtime.NumGoroutine") = false := by kernel_rfl
theorem nm161 : (Try.f161.name == "runtime.NumGoroutine") = false := by kernel_rfl
theorem nm162 : (Try.f162.name == "runtime.NumGoroutine") = false := by kernel_rfl
theorem nm163 : (Try.f163.name == "runtime.NumGoroutine") = false := by kernel_rfl
theorem nm164 : (Try.f164.name == "runtime.NumGoroutine") = false := by kernel_rfl
theorem nm165 : (Try.f165.name == "runtime.NumGoroutine") = false := by kernel_rfl
theorem nm166 : (Try.f166.name == "runtime.NumGoroutine") = false := by kernel_rfl
theorem nm167 : (Try.f167.name == "runtime.NumGoroutine") = false := by kernel_rfl
theorem nm168 : (Try.f168.name == "runtime.NumGoroutine") = false := by kernel_rfl
theorem nm169 : (Try.f169.name == "runtime.NumGoroutine") = false := by kernel_rfl
theorem nm170 : (Try.f170.name == "runtime.NumGoroutine") = false := by kernel_rfl
theorem nm171 : (Try.f171.name == "runtime.NumGoroutine") = false := by kernel_rfl
theorem nm172 : (Try.f172.name == "runtime.NumGoroutine") = false := by kernel_rfl
theorem nm173 : (Try.f173.name == "runtime.NumGoroutine") = false := by kernel_rfl
theorem nm174 : (Try.f174.name == "runtime.NumGoroutine") = false := by kernel_rfl
theorem nm175 : (Try.f175.name == "runtime.NumGoroutine") = false := by kernel_rfl
theorem nm176 : (Try.f176.name == "runtime.NumGoroutine") = false := by kernel_rfl
theorem nm177 : (Try.f177.name == "runtime.NumGoroutine") = false := by kernel_rfl
theorem nm178 : (Try.f178.name == "runtime.NumGoroutine") = false := by kernel_rfl
theorem nm179 : (Try.f179.name == "runtime.NumGoroutine") = false := by kernel_rfl
theorem nm180 : (Try.f180.name == "runtime.NumGoroutine") = false := by kernel_rfl
theorem nm181 : (Try.f181.name == "runtime.NumGoroutine") = false := by kernel_rfl
theorem nm182 : (Try.f182.name == "runtime.NumGoroutine") = false := by kernel_rfl
theorem nm183 : (Try.f183.name == "runtime.NumGoroutine") = false := by kernel_rfl
theorem nm184 : (Try.f184.name == "runtime.NumGoroutine") = false := by kernel_rfl
theorem nm185 : (Try.f185.name == "runtime.NumGoroutine") = false := by kernel_rfl
theorem nm186 : (Try.f186.name == "runtime.NumGoroutine") = false := by kernel_rfl
theorem nm187 : (Try.f187.name == "runtime.NumGoroutine") = false := by kernel_rfl
theorem nm188 : (Try.f188.name == "runtime.NumGoroutine") = false := by kernel_rfl
theorem nm189 : (Try.f189.name == "runtime.NumGoroutine") = false := by kernel_rfl
theorem nm190 : (Try.f190.name == "runtime.NumGoroutine") = false := by kernel_rfl
theorem nm191 : (Try.f191.name == "runtime.NumGoroutine") = false := by kernel_rfl
theorem nm192 : (Try.f192.name == "runtime.NumGoroutine") = false := by kernel_rfl
theorem nm193 : (Try.f193.name == "runtime.NumGoroutine") = false := by kernel_rfl
theorem nm194 : (Try.f194.name == "runtime.NumGoroutine") = false := by kernel_rfl
theorem nm195 : (Try.f195.name == "runtime.NumGoroutine") = false := by kernel_rfl
theorem nm196 : (Try.f196.name == "runtime.NumGoroutine") = false := by kernel_rfl
theorem nm197 : (Try.f197.name == "runtime.NumGoroutine") = false := by kernel_rfl
theorem nm198 : (Try.f198.name == "runtime.NumGoroutine") = false := by kernel_rfl
theorem nm199 : (Try.f199.name == "runtime.NumGoroutine") = false := by kernel_rfl
theorem nm200 : (Try.f200.name == "runtime.NumGoroutine") = false := by kernel_rfl
theorem book_ok : book.Ok Try.prog where
  ty := ⟨⟨⟨⟨⟨⟨trivial, ty2, trivial⟩, ty3, ⟨trivial, ty4, trivial⟩⟩, ty5, ⟨⟨trivial, ty6, trivial⟩, ty7, ⟨trivial, ty8, trivial⟩⟩⟩, ty9, ⟨⟨⟨trivial, ty10, trivial⟩, ty11, ⟨trivial, ty12, trivial⟩⟩, ty15, ⟨⟨trivial, ty16, trivial⟩, ty17, ⟨trivial, ty20, trivial⟩⟩⟩⟩, ty21, ⟨⟨⟨⟨trivial, ty28, trivial⟩, ty30, ⟨trivial, ty31, trivial⟩⟩, ty32, ⟨⟨trivial, ty34, trivial⟩, ty35, ⟨trivial, ty36, trivial⟩⟩⟩, ty38, ⟨⟨⟨trivial, ty39, trivial⟩, ty45, ⟨trivial, ty52, trivial⟩⟩, ty53, ⟨⟨trivial, ty59, trivial⟩, ty60, ⟨trivial, ty61, trivial⟩⟩⟩⟩⟩, ty62, ⟨⟨⟨⟨⟨trivial, ty67, trivial⟩, ty68, ⟨trivial, ty74, trivial⟩⟩, ty76, ⟨⟨trivial, ty84, trivial⟩, ty85, ⟨trivial, ty86, trivial⟩⟩⟩, ty100, ⟨⟨⟨trivial, ty101, trivial⟩, ty102, ⟨trivial, ty107, trivial⟩⟩, ty117, ⟨⟨trivial, ty123, trivial⟩, ty124, ⟨trivial, ty125, trivial⟩⟩⟩⟩, ty142, ⟨⟨⟨⟨trivial, ty143, trivial⟩, ty144, ⟨trivial, ty149, trivial⟩⟩, ty156, ⟨⟨trivial, ty165, trivial⟩, ty170, ⟨trivial, ty174, trivial⟩⟩⟩, ty177, ⟨⟨⟨trivial, ty178, trivial⟩, ty179, ⟨trivial, ty181, trivial⟩⟩, ty182, ⟨⟨trivial, ty183, trivial⟩, ty186, trivial⟩⟩⟩⟩⟩
  fn := ⟨⟨⟨⟨⟨⟨⟨⟨trivial, ⟨Try.func3, nm3⟩, trivial⟩, ⟨Try.func4, nm4⟩, ⟨trivial, ⟨Try.func5, nm5⟩, trivial⟩⟩, ⟨Try.func6, nm6⟩, ⟨⟨trivial, ⟨Try.func7, nm7⟩, trivial⟩, ⟨Try.func8, nm8⟩, trivial⟩⟩, ⟨Try.func9, nm9⟩, ⟨⟨⟨trivial, ⟨Try.func10, nm10⟩, trivial⟩, ⟨Try.func11, nm11⟩, trivial⟩, ⟨Try.func12, nm12⟩, ⟨⟨trivial, ⟨Try.func13, nm13⟩, trivial⟩, ⟨Try.func14, nm14⟩, trivial⟩⟩⟩, ⟨Try.func15, nm15⟩, ⟨⟨⟨⟨trivial, ⟨Try.func16, nm16⟩, trivial⟩, ⟨Try.func17, nm17⟩, trivial⟩, ⟨Try.func18, nm18⟩, ⟨⟨trivial, ⟨Try.func19, nm19⟩, trivial⟩, ⟨Try.func20, nm20⟩, trivial⟩⟩, ⟨Try.func21, nm21⟩, ⟨⟨⟨trivial, ⟨Try.func22, nm22⟩, trivial⟩, ⟨Try.func23, nm23⟩, trivial⟩, ⟨Try.func24, nm24⟩, ⟨⟨trivial, ⟨Try.func25, nm25⟩, trivial⟩, ⟨Try.func26, nm26⟩, trivial⟩⟩⟩⟩, ⟨Try.func27, nm27⟩, ⟨⟨⟨⟨⟨trivial, ⟨Try.func28, nm28⟩, trivial⟩, ⟨Try.func29, nm29⟩, ⟨trivial, ⟨Try.func30, nm30⟩, trivial⟩⟩, ⟨Try.func31, nm31⟩, ⟨⟨trivial, ⟨Try.func32, nm32⟩, trivial⟩, ⟨Try.func33, nm33⟩, trivial⟩⟩, ⟨Try.func34, nm34⟩, ⟨⟨⟨trivial, ⟨Try.func35, nm35⟩, trivial⟩, ⟨Try.func36, nm36⟩, trivial⟩, ⟨Try.func37, nm37⟩, ⟨⟨trivial, ⟨Try.func38, nm38⟩, trivial⟩, ⟨Try.func39, nm39⟩, trivial⟩⟩⟩, ⟨Try.func40, nm40⟩, ⟨⟨⟨⟨trivial, ⟨Try.func41, nm41⟩, trivial⟩, ⟨Try.func42, nm42⟩, trivial⟩, ⟨Try.func43, nm43⟩, ⟨⟨trivial, ⟨Try.func44, nm44⟩, trivial⟩, ⟨Try.func45, nm45⟩, trivial⟩⟩, ⟨Try.func46, nm46⟩, ⟨⟨⟨trivial, ⟨Try.func47, nm47⟩, trivial⟩, ⟨Try.func48, nm48⟩, trivial⟩, ⟨Try.func49, nm49⟩, ⟨⟨trivial, ⟨Try.func50, nm50⟩, trivial⟩, ⟨Try.func51, nm51⟩, trivial⟩⟩⟩⟩⟩, ⟨Try.func52, nm52⟩, ⟨⟨⟨⟨⟨⟨trivial, ⟨Try.func53, nm53⟩, trivial⟩, ⟨Try.func54, nm54⟩, ⟨trivial, ⟨Try.func55, nm55⟩, trivial⟩⟩, ⟨Try.func56, nm56⟩, ⟨⟨trivial, ⟨Try.func57, nm57⟩, trivial⟩, ⟨Try.func58, nm58⟩, trivial⟩⟩, ⟨Try.func59, nm59⟩, ⟨⟨⟨trivial, ⟨Try.func60, nm60⟩, trivial⟩, ⟨Try.func61, nm61⟩, trivial⟩, ⟨Try.func62, nm62⟩, ⟨⟨trivial, ⟨Try.func63, nm63⟩, trivial⟩, ⟨Try.func64, nm64⟩, trivial⟩⟩⟩, ⟨Try.func65, nm65⟩, ⟨⟨⟨⟨trivial, ⟨Try.func66, nm66⟩, trivial⟩, ⟨Try.func67, nm67⟩, trivial⟩, ⟨Try.func68, nm68⟩, ⟨⟨trivial, ⟨Try.func69, nm69⟩, trivial⟩, ⟨Try.func70, nm70⟩, trivial⟩⟩, ⟨Try.func71, nm71⟩, ⟨⟨⟨trivial, ⟨Try.func72, nm72⟩, trivial⟩, ⟨Try.func73, nm73⟩, trivial⟩, ⟨Try.func74, nm74⟩, ⟨⟨trivial, ⟨Try.func75, nm75⟩, trivial⟩, ⟨Try.func76, nm76⟩, trivial⟩⟩⟩⟩, ⟨Try.func77, nm77⟩, ⟨⟨⟨⟨⟨trivial, ⟨Try.func78, nm78⟩, trivial⟩, ⟨Try.func79, nm79⟩, ⟨trivial, ⟨Try.func80, nm80⟩, trivial⟩⟩, ⟨Try.func81, nm81⟩, ⟨⟨trivial, ⟨Try.func82, nm82⟩, trivial⟩, ⟨Try.func83, nm83⟩, trivial⟩⟩, ⟨Try.func84, nm84⟩, ⟨⟨⟨trivial, ⟨Try.func85, nm85⟩, trivial⟩, ⟨Try.func86, nm86⟩, trivial⟩, ⟨Try.func87, nm87⟩, ⟨⟨trivial, ⟨Try.func88, nm88⟩, trivial⟩, ⟨Try.func89, nm89⟩, trivial⟩⟩⟩, ⟨Try.func90, nm90⟩, ⟨⟨⟨⟨trivial, ⟨Try.func91, nm91⟩, trivial⟩, ⟨Try.func92, nm92⟩, trivial⟩, ⟨Try.func93, nm93⟩, ⟨⟨trivial, ⟨Try.func94, nm94⟩, trivial⟩, ⟨Try.func95, nm95⟩, trivial⟩⟩, ⟨Try.func96, nm96⟩, ⟨⟨⟨trivial, ⟨Try.func97, nm97⟩, trivial⟩, ⟨Try.func98, nm98⟩, trivial⟩, ⟨Try.func99, nm99⟩, ⟨⟨trivial, ⟨Try.func100, nm100⟩, trivial⟩, ⟨Try.func101, nm101⟩, trivial⟩⟩⟩⟩⟩⟩, ⟨Try.func102, nm102⟩, ⟨⟨⟨⟨⟨⟨⟨trivial, ⟨Try.func103, nm103⟩, trivial⟩, ⟨Try.func104, nm104⟩, ⟨trivial, ⟨Try.func105, nm105⟩, trivial⟩⟩, ⟨Try.func106, nm106⟩, ⟨⟨trivial, ⟨Try.func107, nm107⟩, trivial⟩, ⟨Try.func108, nm108⟩, trivial⟩⟩, ⟨Try.func109, nm109⟩, ⟨⟨⟨trivial, ⟨Try.func110, nm110⟩, trivial⟩, ⟨Try.func111, nm111⟩, trivial⟩, ⟨Try.func112, nm112⟩, ⟨⟨trivial, ⟨Try.func113, nm113⟩, trivial⟩, ⟨Try.func114, nm114⟩, trivial⟩⟩⟩, ⟨Try.func115, nm115⟩, ⟨⟨⟨⟨trivial, ⟨Try.func116, nm116⟩, trivial⟩, ⟨Try.func117, nm117⟩, trivial⟩, ⟨Try.func118, nm118⟩, ⟨⟨trivial, ⟨Try.func119, nm119⟩, trivial⟩, ⟨Try.func120, nm120⟩, trivial⟩⟩, ⟨Try.func121, nm121⟩, ⟨⟨⟨trivial, ⟨Try.func122, nm122⟩, trivial⟩, ⟨Try.func123, nm123⟩, trivial⟩, ⟨Try.func124, nm124⟩, ⟨⟨trivial, ⟨Try.func125, nm125⟩, trivial⟩, ⟨Try.func126, nm126⟩, trivial⟩⟩⟩⟩, ⟨Try.func127, nm127⟩, ⟨⟨⟨⟨⟨trivial, ⟨Try.func128, nm128⟩, trivial⟩, ⟨Try.func129, nm129⟩, ⟨trivial, ⟨Try.func130, nm130⟩, trivial⟩⟩, ⟨Try.func131, nm131⟩, ⟨⟨trivial, ⟨Try.func132, nm132⟩, trivial⟩, ⟨Try.func133, nm133⟩, trivial⟩⟩, ⟨Try.func134, nm134⟩, ⟨⟨⟨trivial, ⟨Try.func135, nm135⟩, trivial⟩, ⟨Try.func136, nm136⟩, trivial⟩, ⟨Try.func137, nm137⟩, ⟨⟨trivial, ⟨Try.func138, nm138⟩, trivial⟩, ⟨Try.func139, nm139⟩, trivial⟩⟩⟩, ⟨Try.func140, nm140⟩, ⟨⟨⟨⟨trivial, ⟨Try.func141, nm141⟩, trivial⟩, ⟨Try.func142, nm142⟩, trivial⟩, ⟨Try.func143, nm143⟩, ⟨⟨trivial, ⟨Try.func144, nm144⟩, trivial⟩, ⟨Try.func145, nm145⟩, trivial⟩⟩, ⟨Try.func146, nm146⟩, ⟨⟨⟨trivial, ⟨Try.func147, nm147⟩, trivial⟩, ⟨Try.func148, nm148⟩, trivial⟩, ⟨Try.func149, nm149⟩, ⟨⟨trivial, ⟨Try.func150, nm150⟩, trivial⟩, ⟨Try.func151, nm151⟩, trivial⟩⟩⟩⟩⟩, ⟨Try.func152, nm152⟩, ⟨⟨⟨⟨⟨⟨trivial, ⟨Try.func153, nm153⟩, trivial⟩, ⟨Try.func154, nm154⟩, ⟨trivial, ⟨Try.func155, nm155⟩, trivial⟩⟩, ⟨Try.func156, nm156⟩, ⟨⟨trivial, ⟨Try.func157, nm157⟩, trivial⟩, ⟨Try.func158, nm158⟩, trivial⟩⟩, ⟨Try.func159, nm159⟩, ⟨⟨⟨trivial, ⟨Try.func160, nm160⟩, trivial⟩, ⟨Try.func161, nm161⟩, trivial⟩, ⟨Try.func162, nm162⟩, ⟨⟨trivial, ⟨Try.func163, nm163⟩, trivial⟩, ⟨Try.func164, nm164⟩, trivial⟩⟩⟩, ⟨Try.func165, nm165⟩, ⟨⟨⟨⟨trivial, ⟨Try.func166, nm166⟩, trivial⟩, ⟨Try.func167, nm167⟩, trivial⟩, ⟨Try.func168, nm168⟩, ⟨⟨trivial, ⟨Try.func169, nm169⟩, trivial⟩, ⟨Try.func170, nm170⟩, trivial⟩⟩, ⟨Try.func171, nm171⟩, ⟨⟨⟨trivial, ⟨Try.func172, nm172⟩, trivial⟩, ⟨Try.func173, nm173⟩, trivial⟩, ⟨Try.func174, nm174⟩, ⟨⟨trivial, ⟨Try.func175, nm175⟩, trivial⟩, ⟨Try.func176, nm176⟩, trivial⟩⟩⟩⟩, ⟨Try.func177, nm177⟩, ⟨⟨⟨⟨⟨trivial, ⟨Try.func178, nm178⟩, trivial⟩, ⟨Try.func179, nm179⟩, trivial⟩, ⟨Try.func180, nm180⟩, ⟨⟨trivial, ⟨Try.func181, nm181⟩, trivial⟩, ⟨Try.func182, nm182⟩, trivial⟩⟩, ⟨Try.func183, nm183⟩, ⟨⟨⟨trivial, ⟨Try.func184, nm184⟩, trivial⟩, ⟨Try.func185, nm185⟩, trivial⟩, ⟨Try.func186, nm186⟩, ⟨⟨trivial, ⟨Try.func187, nm187⟩, trivial⟩, ⟨Try.func188, nm188⟩, trivial⟩⟩⟩, ⟨Try.func189, nm189⟩, ⟨⟨⟨⟨trivial, ⟨Try.func190, nm190⟩, trivial⟩, ⟨Try.func191, nm191⟩, trivial⟩, ⟨Try.func192, nm192⟩, ⟨⟨trivial, ⟨Try.func193, nm193⟩, trivial⟩, ⟨Try.func194, nm194⟩, trivial⟩⟩, ⟨Try.func195, nm195⟩, ⟨⟨⟨trivial, ⟨Try.func196, nm196⟩, trivial⟩, ⟨Try.func197, nm197⟩, trivial⟩, ⟨Try.func198, nm198⟩, ⟨⟨trivial, ⟨Try.func199, nm199⟩, trivial⟩, ⟨Try.func200, nm200⟩, trivial⟩⟩⟩⟩⟩⟩⟩
  mixed := Checked.mixed Try.checked

end Go.Proofs.Ytdcijmigoefnjaa
