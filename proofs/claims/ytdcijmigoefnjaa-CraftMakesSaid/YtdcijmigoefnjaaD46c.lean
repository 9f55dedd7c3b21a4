import Derived.Test.YtdcijmigoefnjaaD03
set_option linter.unusedVariables false
set_option maxRecDepth 100000
namespace Go.Proofs.Ytdcijmigoefnjaa
open Go Go.Ev
def bytR (xs : List AV) : Bool := bytB xs && tinyR xs
def fourX (lk : Bool) (hs : List AV) : List AV := lockL lk (fourL hs)
def sixX (lk : Bool) (hs : List AV) : List AV := lockL lk (sixL hs)
def arpX (lk : Bool) (hs : List AV) : List AV := lockL lk (arpL hs)
def clsB (hs : List AV) : Bool := numOk (ishl .i64 (ibits .or .i64 1536 (clsI hs)) 20) 4
def S154 (lk : Bool) : SumT := sumO (σ := XF) [] id (fun a cs => frK cs) (fun x => [.ptr 1000 0]) (fun x => grown x.1 x.2 []) (fun x => isHdr x.1 && bytR x.2) (fun _ => .tup []) (fun x => grown x.1 (x.2 ++ fourX lk x.1) [0])
def S155 (lk : Bool) : SumT := sumO (σ := XF) [] id (fun a cs => frK cs) (fun x => [.ptr 1000 0]) (fun x => grown x.1 x.2 []) (fun x => isHdr x.1 && (clsB x.1 && tinyR x.2)) (fun _ => .tup []) (fun x => grown x.1 (x.2 ++ sixX lk x.1) [0])
def S156 (lk : Bool) : SumT := sumO (σ := XF) [] id (fun a cs => frK cs) (fun x => [.ptr 1000 0]) (fun x => grown x.1 x.2 []) (fun x => isHdr x.1 && tinyR x.2) (fun _ => .tup []) (fun x => grown x.1 (x.2 ++ arpX lk x.1) [0])
def sp98 : List (FuncId × SumT) := (99,S99) :: (150,S150) :: spF
def spO98 (lk : Bool) : List (FuncId × SumT) := (154,S154 lk) :: (155,S155 lk) :: (156,S156 lk) :: spO0
end Go.Proofs.Ytdcijmigoefnjaa
set_option linter.unusedVariables false
set_option maxRecDepth 100000
namespace Go.Proofs.Ytdcijmigoefnjaa
open Go Go.Ev
def tagN (hs : List AV) : Int := ibits .or .i64 (ishl .i64 (lowH hs 6) 13) (ibits .and .i64 (lowH hs 5) 4095)
def labN (hs : List AV) : Int := ishl .i64 (lowH hs 23) 12
def tagL (hs : List AV) : List AV := bif !allZ hs (nI [5]) then [.int .u8 129,.int .u8 0] ++ numL (tagN hs) 2 else []
def bodyH (hs : List AV) : List AV :=
 bif ieq (lowH hs 4) 2048 then fourL hs else bif ieq (lowH hs 4) 34525 then sixL hs else bif ieq (lowH hs 4) 2054 then arpL hs else
 bif (bif ieq (lowH hs 4) 34887 then true else ieq (lowH hs 4) 34888) then numL (labN hs) 4 else []
def layH (hs : List AV) : List AV := (((fldC hs 2 6 ++ fldC hs 3 6) ++ tagL hs) ++ fldC hs 4 2) ++ bodyH hs
def layX (lk : Bool) (hs : List AV) : List AV := lockL lk (layH hs)
def S98 (lk : Bool) : SumT := sum0 (σ := List AV) (fun a => (arg a 0).cells) (fun x => [.agg x]) (fun x => hdrU x)
 (fun x => .ite (rightH x) (.leaf (.tup [.sl 1 (layX lk x) .sh,.int .i64 0])) (.leaf (.tup [.sl 0 [] .nil,.int .i64 7])))
end Go.Proofs.Ytdcijmigoefnjaa
set_option linter.unusedVariables false
set_option maxRecDepth 100000
namespace Go.Proofs.Ytdcijmigoefnjaa
open Go Go.Ev
def fitH (hs : List AV) : Bool := hdrU hs && fitsC hs
def few (n : Int) : Bool := bif ieq n 2 then true else bif ieq n 6 then true else ieq n 16
def fldX (lk : Bool) (hs : List AV) (i n : Int) : List AV := lockL lk (fldC hs i n)
def nulX (lk : Bool) (n : Int) : List AV := lockL lk (nul n.toNat)
def S199 (lk : Bool) : SumT := Go.Ev.sumV (σ := List AV × Int) (fun a => ((arg a 0).elems,(arg a 1).asInt)) (fun x => [.sl 1 x.1 (.own []),.int .i64 x.2]) (fun x => tinyB x.1 && few x.2) (fun x => .sl 1 (x.1 ++ nulX lk x.2) (.own []))
def S187 (lk : Bool) : SumT := sumW (σ := List AV × List AV × Int × Int) [1] (fun a => ((arg a 0).elems,(arg a 1).cells,(arg a 2).asInt,(arg a 3).asInt)) (fun x => [.sl 1 x.1 .sh,.agg x.2.1,.int .i64 x.2.2.1,.int .i64 x.2.2.2])
 (fun x => isHdr x.2.1 && (isF x.2.2.1 && (sizeOk x.2.2.2 && tinyB x.1))) (fun x => .leaf (.sl 1 (x.1 ++ fldX lk x.2.1 x.2.2.1 x.2.2.2) (.own [])))
def S198 : SumT := sum0 (σ := List AV) (fun a => (arg a 0).cells) (fun x => [.agg x]) (fun x => fitH x) (fun x => .leaf (.int .i64 (clsI x)))
def S197 (lk : Bool) : SumT := sum0 (σ := List AV × Bool) (fun a => ((arg a 0).cells,(arg a 1).asBool)) (fun x => [.agg x.1,.bool x.2]) (fun x => fitH x.1)
 (fun x => .ite (hasIn x.1 x.2) (.leaf (.sl 1 (inX lk x.1 x.2) (.own []))) (.leaf (.sl 0 [] .nil)))
def spQ : List (FuncId × SumT) := [(118,S117o),(134,S133),(73,S72)]
def spQ1 (lk : Bool) : List (FuncId × SumT) := (187,S187 lk) :: spQ
def spQ2 (lk : Bool) : List (FuncId × SumT) := (187,S187 lk) :: (197,S197 lk) :: (198,S198) :: spQ
def spQ4 (lk : Bool) : List (FuncId × SumT) := (187,S187 true) :: (197,S197 lk) :: (198,S198) :: spQ
def spV (lk : Bool) : List (FuncId × SumT) := [(199,S199 lk)]
def SB (lk : Bool) (F : Bool → List AV → List AV) : SumT := sum0 (σ := List AV) (fun a => (arg a 0).cells) (fun x => [.agg x]) (fun x => fitH x) (fun x => .leaf (.sl 1 (F lk x) (.own [])))
def spQ3 (lk : Bool) : List (FuncId × SumT) := (188,SB lk fourX) :: (189,SB lk sixX) :: (190,SB lk arpX) :: spQ2 lk
def S103 : SumT := sum0 (σ := List AV) (fun a => (arg a 0).cells) (fun x => [.agg x]) (fun x => hdrU x) (fun x => .leaf (.bool (rightH x)))
end Go.Proofs.Ytdcijmigoefnjaa
