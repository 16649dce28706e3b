/- begun's states and answers, in plain Lean. -/
import Derived.Test.YtandhpnpodkemaaFNone
set_option linter.unusedVariables false
set_option linter.unusedSimpArgs false
set_option maxRecDepth 100000
namespace Go.Proofs.Ytandhpnpodkemaa.M
open Go.RowKit

def bg0 : Fl := newF 2
def bg1 : Fl := progF bg0 1 3 [97]
def bg2 : Fl := progF bg1 1 3 []
def bg3 : Fl := setFuseF bg2 1 1
def bg4 : Fl := eraseF bg3 1
def bg5 : Fl := restartF bg4
theorem bg_p1 : progE bg0 1 3 1 = 0 := by decide +kernel
theorem bg_p2 : progE bg1 1 3 0 = 20 := by decide +kernel
theorem bg_r1 : readE bg2 1 3 = 0 := by decide +kernel
theorem bg_l1 : readL bg2 1 3 = 97 :: List.replicate 255 255 := by decide +kernel
theorem bg_f1 : setFuseE bg2 1 = 0 := by decide +kernel
theorem bg_e1 : eraseE bg3 1 = 7 := by decide +kernel
theorem bg_s1 : restartE bg4 = 0 := by decide +kernel
theorem bg_r2 : readE bg5 1 0 = 22 := by decide +kernel
theorem bg_u0 : 0 ≤ bg0.fuse ∧ bg0.fuse ≤ 9223372036854775807 := by decide +kernel
theorem bg_u1 : 0 ≤ bg1.fuse ∧ bg1.fuse ≤ 9223372036854775807 := by decide +kernel
theorem bg_u3 : 0 ≤ bg3.fuse ∧ bg3.fuse ≤ 9223372036854775807 := by decide +kernel
end Go.Proofs.Ytandhpnpodkemaa.M
