/- Lists: slices.Equal (printed by program). -/
import Derived.Test.YtdcijmigoefnjaaL1
set_option linter.unusedVariables false
set_option maxRecDepth 100000
set_option maxHeartbeats 0
namespace Go.Proofs.Ytdcijmigoefnjaa
open Go Go.Ev

theorem p41 (xs ys : List AV) (r : AV × List (List AV)) (k0 : (!ieq ↑xs.length ↑ys.length) = true → ((AV.bool false, [])) = r) (k1 : (!ieq ↑xs.length ↑ys.length) = false → (pre41 IntKind.i64 (0, xs, ys)) = true) (k2 : (!ieq ↑xs.length ↑ys.length) = false → (eqA xs ys) = true → ((AV.bool true, [])) = r) (k3 : (!ieq ↑xs.length ↑ys.length) = false → (eqA xs ys) = false → ((AV.bool false, [])) = r) : Goes (runP (book.envP 41 noSpec big (loopsAt [(4, lp41)])) Try.f41 [.sl 1 xs .sh, .sl 1 ys .sh] [] (.s .z (.s .z .z))) r :=
  Goes.of_eq (t' := Bool.rec (motive := fun _ => TR) (.must (st41 (0, xs, ys) = st41 (0, xs, ys)) (Bool.rec (motive := fun _ => TR) .no (Bool.rec (motive := fun _ => TR) (.ret ((AV.bool false, []))) (.ret ((AV.bool true, []))) (eqA xs ys)) (pre41 IntKind.i64 (0, xs, ys)))) (.ret ((AV.bool false, []))) (!ieq ↑xs.length ↑ys.length)) (by kernel_rfl) (.ite (fun h0_0 => Goes.leafE (k0 h0_0)) (fun h0_0 => .must rfl (.step (k1 h0_0) (.ite (fun h2_2 => Goes.leafE (k2 h0_0 h2_2)) (fun h2_2 => Goes.leafE (k3 h0_0 h2_2))))))
theorem p59 (xs ys : List AV) (r : AV × List (List AV)) (k0 : (!ieq ↑xs.length ↑ys.length) = true → ((AV.bool false, [])) = r) (k1 : (!ieq ↑xs.length ↑ys.length) = false → (pre41 zk (0, xs, ys)) = true) (k2 : (!ieq ↑xs.length ↑ys.length) = false → (eqA xs ys) = true → ((AV.bool true, [])) = r) (k3 : (!ieq ↑xs.length ↑ys.length) = false → (eqA xs ys) = false → ((AV.bool false, [])) = r) : Goes (runP (book.envP 59 noSpec big (loopsAt [(4, lp59)])) Try.f59 [.sl 1 xs .sh, .sl 1 ys .sh] [] (.s .z (.s .z .z))) r :=
  Goes.of_eq (t' := Bool.rec (motive := fun _ => TR) (.must (st41 (0, xs, ys) = st41 (0, xs, ys)) (Bool.rec (motive := fun _ => TR) .no (Bool.rec (motive := fun _ => TR) (.ret ((AV.bool false, []))) (.ret ((AV.bool true, []))) (eqA xs ys)) (pre41 zk (0, xs, ys)))) (.ret ((AV.bool false, []))) (!ieq ↑xs.length ↑ys.length)) (by kernel_rfl) (.ite (fun h0_0 => Goes.leafE (k0 h0_0)) (fun h0_0 => .must rfl (.step (k1 h0_0) (.ite (fun h2_2 => Goes.leafE (k2 h0_0 h2_2)) (fun h2_2 => Goes.leafE (k3 h0_0 h2_2))))))

end Go.Proofs.Ytdcijmigoefnjaa
