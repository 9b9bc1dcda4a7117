/- sane: it returns true. -/
import Derived.Test.YteonpdnncodkaaaDoorLawB
set_option linter.unusedVariables false
set_option linter.unusedSimpArgs false
namespace Go.Proofs.YteonpdnncodkaaaDoor
open Go.RowKit

def s5 : Sec := ⟨5, 0, 0, 0, 3, [], [⟨2, 2, 100⟩], [], false⟩
def x5 : List Seat := [⟨7, 5, 2⟩]
def y5 : List Seat := [⟨3, 5, -1⟩, ⟨7, 5, 2⟩]
theorem sv1 : freeV [s5] [] 5 (-1) 99 = 1 := by decide +kernel
theorem sv2 : freeV [s5] [] 5 2 99 = 3 := by decide +kernel
theorem sv3 : freeV [s5] [] 5 (-1) 100 = 3 := by decide +kernel
theorem se1 : freeE [s5] [] 5 (-1) = 0 := by decide +kernel
theorem se2 : freeE [s5] [] 5 2 = 0 := by decide +kernel
theorem se4 : freeE [] [] 0 (-1) = 250 := by decide +kernel
theorem se5 : freeE [] [] 0 8 = 1 := by decide +kernel
theorem st1 : takeX [s5] [] 7 5 (-1) [2] 99 = x5 := by decide +kernel
theorem st2 : takeE [s5] [] 7 5 (-1) [2] 99 = 0 := by decide +kernel
theorem st3 : takeX [s5] x5 3 5 (-1) [] 99 = y5 := by decide +kernel
theorem st4 : takeE [s5] x5 3 5 (-1) [] 99 = 0 := by decide +kernel
theorem st5 : takeX [s5] y5 4 5 (-1) [] 99 = [] := by decide +kernel
theorem st6 : takeE [s5] y5 4 5 (-1) [] 99 = 251 := by decide +kernel
theorem sl1 : leaveX y5 7 5 (-1) = [⟨3, 5, -1⟩] := by decide +kernel
theorem sl2 : leaveE y5 7 5 (-1) = 0 := by decide +kernel
theorem sl3 : leaveX [] 3 5 (-1) = [] := by decide +kernel
theorem sl4 : leaveE [] 3 5 (-1) = 250 := by decide +kernel
theorem st7 : takeX [s5] x5 7 5 (-1) [] 99 = [] := by decide +kernel
theorem st8 : takeE [s5] x5 7 5 (-1) [] 99 = 250 := by decide +kernel
theorem sc1 : seatCheck [] [] = 0 := by decide +kernel
theorem sc2 : seatCheck [s5] x5 = 0 := by decide +kernel
theorem sc3 : seatCheck [] x5 = 250 := by decide +kernel
theorem sh1 : hasSeat y5 3 5 = true := by decide +kernel
theorem sh2 : hasSeat [] 3 5 = false := by decide +kernel
end Go.Proofs.YteonpdnncodkaaaDoor
