/- Chapter 02 and 04: numbers of 128 bits as bytes. -/
import Derived.Test.YtdcijmigoefnjaaD04
set_option linter.unusedVariables false
set_option maxRecDepth 100000
namespace Go.Proofs.Ytdcijmigoefnjaa
open Go Go.Ev

/-- a byte of a half -/
def byteAt (v : Int) (s : Int) : AV := .int .u8 (IntKind.u8.wrap (ishr .u64 v s))
def all16 (v : Int × Int) : List AV := [byteAt v.1 56, byteAt v.1 48, byteAt v.1 40, byteAt v.1 32, byteAt v.1 24, byteAt v.1 16, byteAt v.1 8, byteAt v.1 0, byteAt v.2 56, byteAt v.2 48, byteAt v.2 40, byteAt v.2 32, byteAt v.2 24, byteAt v.2 16, byteAt v.2 8, byteAt v.2 0]
def putL (v : Int × Int) (n : Int) : List AV := (all16 v).drop (16 - n.toNat)
end Go.Proofs.Ytdcijmigoefnjaa
