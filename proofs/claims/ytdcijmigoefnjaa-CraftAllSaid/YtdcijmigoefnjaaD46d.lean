import Derived.Test.YtdcijmigoefnjaaD03
/- Chapter 46: a header's frame, as a contract. -/
set_option linter.unusedVariables false
set_option maxRecDepth 100000
namespace Go.Proofs.Ytdcijmigoefnjaa
open Go Go.Ev
def tagN (hs : List AV) : Int := ibits .or .i64 (ishl .i64 (lowH hs 6) 13) (ibits .and .i64 (lowH hs 5) 4095)
def labN (hs : List AV) : Int := ishl .i64 (lowH hs 23) 12
def tagL (hs : List AV) : List AV := bif !allZ hs (nI [5]) then [.int .u8 129, .int .u8 0] ++ numL (tagN hs) 2 else []
def bodyH (hs : List AV) : List AV :=
  bif ieq (lowH hs 4) 2048 then fourL hs else bif ieq (lowH hs 4) 34525 then sixL hs else bif ieq (lowH hs 4) 2054 then arpL hs else
  bif (bif ieq (lowH hs 4) 34887 then true else ieq (lowH hs 4) 34888) then numL (labN hs) 4 else []
/-- a header's frame -/
def layH (hs : List AV) : List AV := (((fldC hs 2 6 ++ fldC hs 3 6) ++ tagL hs) ++ fldC hs 4 2) ++ bodyH hs
def layX (lk : Bool) (hs : List AV) : List AV := lockL lk (layH hs)
def S98 (lk : Bool) : SumT := sum0 (σ := List AV) (fun a => (arg a 0).cells) (fun x => [.agg x]) (fun x => hdrU x)
  (fun x => .ite (rightH x) (.leaf (.tup [.sl 1 (layX lk x) .sh, .int .i64 0])) (.leaf (.tup [.sl 0 [] .nil, .int .i64 7])))
end Go.Proofs.Ytdcijmigoefnjaa

/- Chapter 46: the laws' calls. -/
set_option linter.unusedVariables false
set_option maxRecDepth 100000
namespace Go.Proofs.Ytdcijmigoefnjaa
open Go Go.Ev
def sp23 (lk : Bool) : List (FuncId × SumT) := [(98, S98 lk), (99, S99), (70, S70 lk), (37, S37), (100, sumOf (g0 (.bool true)))]
end Go.Proofs.Ytdcijmigoefnjaa
