/- The sanity example on the plain model. -/
import Derived.Test.YtpoagpaglocpeaaGreatModel6
namespace Go.Proofs.YtpoagpaglocpeaaGreat
set_option linter.unusedSimpArgs false
set_option linter.unusedVariables false
set_option linter.unnecessarySimpa false
open M
namespace San

def fill (c : UInt8) : Bytes := List.replicate 116 c
def s1 : Disk × M.Pages := openAt (Disk.new 20)
def s2 : Int × Disk × M.Pages := give s1.1 s1.2 [(0, fill 97), (2, fill 98)]
def s3 : Int × Disk × M.Pages := give s2.2.1 s2.2.2 []
def s4 : Int × Disk × M.Pages := give s3.2.1 s3.2.2 [(3, fill 97)]
def s5 : Int × Disk × M.Pages := give (s4.2.1.setTrip 2) s4.2.2 [(0, fill 98)]
def d6 : Disk := s5.2.1.mount [0, 0, 0]
def s6 : Disk × M.Pages := openAt d6
def s7 : Int × Disk := s6.1.rot 19 77
def s8 : Disk × M.Pages := openAt s7.2

set_option maxRecDepth 100000
theorem f1 : s1.2.read s1.1 2 = (fill 0, 0) := by decide +kernel
theorem f2 : s2.1 = 0 := by decide +kernel
theorem f3 : s2.2.2.read s2.2.1 2 = (fill 98, 0) := by decide +kernel
theorem f4 : s3.1 = 1 := by decide +kernel
theorem f5 : s4.1 = 1 := by decide +kernel
theorem f6 : s4.2.1.len - 17 = 3 := by decide +kernel
theorem f7 : s4.2.2.number = 1 := by decide +kernel
theorem f8 : s5.1 = 20 := by decide +kernel
theorem f9 : s5.2.2.read s5.2.1 0 = ([], 20) := by decide +kernel
theorem f10 : d6.off = false := by decide +kernel
theorem f11 : d6.trip = -1 := by decide +kernel
theorem f12 : d6.pg.length = 20 := by decide +kernel
theorem f13 : s6.2.read s6.1 0 = (fill 97, 0) := by decide +kernel
theorem f14 : s7.1 = 0 := by decide +kernel
theorem f15 : s6.2.read s7.2 2 = ([], 7) := by decide +kernel
theorem f16 : s7.2.off = false := by decide +kernel
theorem f17 : s7.2.trip = -1 := by decide +kernel
theorem f18 : s7.2.pg.length = 20 := by decide +kernel
theorem f19 : s8.2.read s8.1 2 = (fill 98, 0) := by decide +kernel
theorem f20 : s8.2.bad = [] := by decide +kernel
theorem f21 : (unsealed (sealed 7 (fill 120))).n = 7 := by decide +kernel
theorem f22 : (unsealed (sealed 7 (fill 120))).data = fill 120 := by decide +kernel
theorem f23 : (unsealed (sealed 7 (fill 120))).ok = true := by decide +kernel
theorem f24 : crc [49, 50, 51, 52, 53, 54, 55, 56, 57] = 3421780262 := by decide +kernel
theorem f25 : crc [] = 0 := by decide +kernel
theorem f26 : s1.2.bad.length ≤ 1000 := by decide +kernel
theorem f27 : (sealed 7 (fill 120)).length = 128 := by decide +kernel
end San
end Go.Proofs.YtpoagpaglocpeaaGreat
