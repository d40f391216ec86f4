import Derived.Test.YtfmpeoickjggiaaGreatDoorC9z
import Derived.Test.YtfmpeoickjggiaaGreatDoorV9j
import Derived.Test.YtfmpeoickjggiaaGreatDoorK3
set_option linter.unusedVariables false
set_option linter.unusedSimpArgs false
namespace Go.EX
section
variable {code : Nat → Option XFun} {ext : Calls'}
theorem nil_29 (h : code 29 = some x29) {B : List AV} {rest : Mem} (hB : B[2]? = some (.imm (.val (.slice none 0 0)))) : callW code ext 29 [.optr 0 0] (.rich B :: rest) = some (.tup [], .rich B :: rest) := by
  rw [callW_fun code ext h]
  simp -implicitDefEqProofs [x29, x29L2, den_loop, hB]
theorem nil_33 (h : code 33 = some x33) {B : List AV} {rest : Mem} (hB : B[3]? = some (.imm (.val (.slice none 0 0)))) : callW code ext 33 [.optr 0 0] (.rich B :: rest) = some (.tup [], .rich B :: rest) := by
  rw [callW_fun code ext h]
  simp -implicitDefEqProofs [x33, x33L2, den_loop, hB]
theorem nil_34 (h : code 34 = some x34) {B : List AV} {rest : Mem} (hB : B[4]? = some (.imm (.val (.slice none 0 0)))) : callW code ext 34 [.optr 0 0] (.rich B :: rest) = some (.tup [], .rich B :: rest) := by
  rw [callW_fun code ext h]
  simp -implicitDefEqProofs [x34, x34L2, den_loop, hB]
theorem nil_28 (h : code 28 = some x28) {B : List AV} {rest : Mem} (hB : B[5]? = some (.imm (.val (.slice none 0 0)))) : callW code ext 28 [.optr 0 0] (.rich B :: rest) = some (.tup [], .rich B :: rest) := by
  rw [callW_fun code ext h]
  simp -implicitDefEqProofs [x28, x28L2, den_loop, hB]
theorem nil_24 (h : code 24 = some x24) {B : List AV} {rest : Mem} (hB : B[6]? = some (.imm (.val (.slice none 0 0)))) : callW code ext 24 [.optr 0 0] (.rich B :: rest) = some (.tup [], .rich B :: rest) := by
  rw [callW_fun code ext h]
  simp -implicitDefEqProofs [x24, x24L2, den_loop, hB]
theorem nil_18 (h : code 18 = some x18) {B : List AV} {rest : Mem} (hB : B[7]? = some (.imm (.val (.slice none 0 0)))) : callW code ext 18 [.optr 0 0] (.rich B :: rest) = some (.tup [], .rich B :: rest) := by
  rw [callW_fun code ext h]
  simp -implicitDefEqProofs [x18, x18L2, den_loop, hB]
theorem nil_17 (h : code 17 = some x17) {B : List AV} {rest : Mem} (hB : B[8]? = some (.imm (.val (.slice none 0 0)))) : callW code ext 17 [.optr 0 0] (.rich B :: rest) = some (.tup [], .rich B :: rest) := by
  rw [callW_fun code ext h]
  simp -implicitDefEqProofs [x17, x17L2, den_loop, hB]
theorem nil_23 (h : code 23 = some x23) {B : List AV} {rest : Mem} (hB : B[9]? = some (.imm (.val (.slice none 0 0)))) : callW code ext 23 [.optr 0 0] (.rich B :: rest) = some (.tup [], .rich B :: rest) := by
  rw [callW_fun code ext h]
  simp -implicitDefEqProofs [x23, x23L2, den_loop, hB]
theorem nil_22 (h : code 22 = some x22) {B : List AV} {rest : Mem} (hB : B[10]? = some (.imm (.val (.slice none 0 0)))) : callW code ext 22 [.optr 0 0] (.rich B :: rest) = some (.tup [], .rich B :: rest) := by
  rw [callW_fun code ext h]
  simp -implicitDefEqProofs [x22, x22L2, den_loop, hB]
theorem nil_21 (h : code 21 = some x21) {B : List AV} {rest : Mem} (hB : B[11]? = some (.imm (.val (.slice none 0 0)))) : callW code ext 21 [.optr 0 0] (.rich B :: rest) = some (.tup [], .rich B :: rest) := by
  rw [callW_fun code ext h]
  simp -implicitDefEqProofs [x21, x21L2, den_loop, hB]
theorem nil_32 (h : code 32 = some x32) {B : List AV} {rest : Mem} (hB : B[12]? = some (.imm (.val (.slice none 0 0)))) : callW code ext 32 [.optr 0 0] (.rich B :: rest) = some (.tup [], .rich B :: rest) := by
  rw [callW_fun code ext h]
  simp -implicitDefEqProofs [x32, x32L2, den_loop, hB]
theorem nil_35 (h : code 35 = some x35) {B : List AV} {rest : Mem} (hB : B[13]? = some (.imm (.val (.slice none 0 0)))) : callW code ext 35 [.optr 0 0] (.rich B :: rest) = some (.tup [], .rich B :: rest) := by
  rw [callW_fun code ext h]
  simp -implicitDefEqProofs [x35, x35L2, den_loop, hB]
theorem nil_30 (h : code 30 = some x30) {B : List AV} {rest : Mem} (hB : B[14]? = some (.imm (.val (.slice none 0 0)))) : callW code ext 30 [.optr 0 0] (.rich B :: rest) = some (.tup [], .rich B :: rest) := by
  rw [callW_fun code ext h]
  simp -implicitDefEqProofs [x30, x30L2, den_loop, hB]
theorem nil_26 (h : code 26 = some x26) {B : List AV} {rest : Mem} (hB : B[15]? = some (.imm (.val (.slice none 0 0)))) : callW code ext 26 [.optr 0 0] (.rich B :: rest) = some (.tup [], .rich B :: rest) := by
  rw [callW_fun code ext h]
  simp -implicitDefEqProofs [x26, x26L2, den_loop, hB]
theorem nil_20 (h : code 20 = some x20) {B : List AV} {rest : Mem} (hB : B[16]? = some (.imm (.val (.slice none 0 0)))) : callW code ext 20 [.optr 0 0] (.rich B :: rest) = some (.tup [], .rich B :: rest) := by
  rw [callW_fun code ext h]
  simp -implicitDefEqProofs [x20, x20L2, den_loop, hB]
theorem nil_19 (h : code 19 = some x19) {B : List AV} {rest : Mem} (hB : B[17]? = some (.imm (.val (.slice none 0 0)))) : callW code ext 19 [.optr 0 0] (.rich B :: rest) = some (.tup [], .rich B :: rest) := by
  rw [callW_fun code ext h]
  simp -implicitDefEqProofs [x19, x19L2, den_loop, hB]
theorem nil_27 (h : code 27 = some x27) {B : List AV} {rest : Mem} (hB : B[18]? = some (.imm (.val (.slice none 0 0)))) : callW code ext 27 [.optr 0 0] (.rich B :: rest) = some (.tup [], .rich B :: rest) := by
  rw [callW_fun code ext h]
  simp -implicitDefEqProofs [x27, x27L2, den_loop, hB]
theorem nil_16 (h : code 16 = some x16) {B : List AV} {rest : Mem} (hB : B[19]? = some (.imm (.val (.slice none 0 0)))) : callW code ext 16 [.optr 0 0] (.rich B :: rest) = some (.tup [], .rich B :: rest) := by
  rw [callW_fun code ext h]
  simp -implicitDefEqProofs [x16, x16L2, den_loop, hB]
theorem nil_31 (h : code 31 = some x31) {B : List AV} {rest : Mem} (hB : B[20]? = some (.imm (.val (.slice none 0 0)))) : callW code ext 31 [.optr 0 0] (.rich B :: rest) = some (.tup [], .rich B :: rest) := by
  rw [callW_fun code ext h]
  simp -implicitDefEqProofs [x31, x31L2, den_loop, hB]
theorem nil_49 (h : code 49 = some x49) {B : List AV} {rest : Mem} (hB : B[2]? = some (.imm (.val (.slice none 0 0)))) : callW code ext 49 [.optr 0 0] (.rich B :: rest) = some (.tup [], .rich B :: rest) := by
  rw [callW_fun code ext h]
  simp -implicitDefEqProofs [x49, x49L2, den_loop, hB]
theorem nil_53 (h : code 53 = some x53) {B : List AV} {rest : Mem} (hB : B[3]? = some (.imm (.val (.slice none 0 0)))) : callW code ext 53 [.optr 0 0] (.rich B :: rest) = some (.tup [], .rich B :: rest) := by
  rw [callW_fun code ext h]
  simp -implicitDefEqProofs [x53, x53L2, den_loop, hB]
theorem nil_54 (h : code 54 = some x54) {B : List AV} {rest : Mem} (hB : B[4]? = some (.imm (.val (.slice none 0 0)))) : callW code ext 54 [.optr 0 0] (.rich B :: rest) = some (.tup [], .rich B :: rest) := by
  rw [callW_fun code ext h]
  simp -implicitDefEqProofs [x54, x54L2, den_loop, hB]
theorem nil_48 (h : code 48 = some x48) {B : List AV} {rest : Mem} (hB : B[5]? = some (.imm (.val (.slice none 0 0)))) : callW code ext 48 [.optr 0 0] (.rich B :: rest) = some (.tup [], .rich B :: rest) := by
  rw [callW_fun code ext h]
  simp -implicitDefEqProofs [x48, x48L2, den_loop, hB]
theorem nil_44 (h : code 44 = some x44) {B : List AV} {rest : Mem} (hB : B[6]? = some (.imm (.val (.slice none 0 0)))) : callW code ext 44 [.optr 0 0] (.rich B :: rest) = some (.tup [], .rich B :: rest) := by
  rw [callW_fun code ext h]
  simp -implicitDefEqProofs [x44, x44L2, den_loop, hB]
theorem nil_38 (h : code 38 = some x38) {B : List AV} {rest : Mem} (hB : B[7]? = some (.imm (.val (.slice none 0 0)))) : callW code ext 38 [.optr 0 0] (.rich B :: rest) = some (.tup [], .rich B :: rest) := by
  rw [callW_fun code ext h]
  simp -implicitDefEqProofs [x38, x38L2, den_loop, hB]
theorem nil_37 (h : code 37 = some x37) {B : List AV} {rest : Mem} (hB : B[8]? = some (.imm (.val (.slice none 0 0)))) : callW code ext 37 [.optr 0 0] (.rich B :: rest) = some (.tup [], .rich B :: rest) := by
  rw [callW_fun code ext h]
  simp -implicitDefEqProofs [x37, x37L2, den_loop, hB]
theorem nil_43 (h : code 43 = some x43) {B : List AV} {rest : Mem} (hB : B[9]? = some (.imm (.val (.slice none 0 0)))) : callW code ext 43 [.optr 0 0] (.rich B :: rest) = some (.tup [], .rich B :: rest) := by
  rw [callW_fun code ext h]
  simp -implicitDefEqProofs [x43, x43L2, den_loop, hB]
theorem nil_42 (h : code 42 = some x42) {B : List AV} {rest : Mem} (hB : B[10]? = some (.imm (.val (.slice none 0 0)))) : callW code ext 42 [.optr 0 0] (.rich B :: rest) = some (.tup [], .rich B :: rest) := by
  rw [callW_fun code ext h]
  simp -implicitDefEqProofs [x42, x42L2, den_loop, hB]
theorem nil_41 (h : code 41 = some x41) {B : List AV} {rest : Mem} (hB : B[11]? = some (.imm (.val (.slice none 0 0)))) : callW code ext 41 [.optr 0 0] (.rich B :: rest) = some (.tup [], .rich B :: rest) := by
  rw [callW_fun code ext h]
  simp -implicitDefEqProofs [x41, x41L2, den_loop, hB]
theorem nil_52 (h : code 52 = some x52) {B : List AV} {rest : Mem} (hB : B[12]? = some (.imm (.val (.slice none 0 0)))) : callW code ext 52 [.optr 0 0] (.rich B :: rest) = some (.tup [], .rich B :: rest) := by
  rw [callW_fun code ext h]
  simp -implicitDefEqProofs [x52, x52L2, den_loop, hB]
theorem nil_55 (h : code 55 = some x55) {B : List AV} {rest : Mem} (hB : B[13]? = some (.imm (.val (.slice none 0 0)))) : callW code ext 55 [.optr 0 0] (.rich B :: rest) = some (.tup [], .rich B :: rest) := by
  rw [callW_fun code ext h]
  simp -implicitDefEqProofs [x55, x55L2, den_loop, hB]
theorem nil_50 (h : code 50 = some x50) {B : List AV} {rest : Mem} (hB : B[14]? = some (.imm (.val (.slice none 0 0)))) : callW code ext 50 [.optr 0 0] (.rich B :: rest) = some (.tup [], .rich B :: rest) := by
  rw [callW_fun code ext h]
  simp -implicitDefEqProofs [x50, x50L2, den_loop, hB]
theorem nil_46 (h : code 46 = some x46) {B : List AV} {rest : Mem} (hB : B[15]? = some (.imm (.val (.slice none 0 0)))) : callW code ext 46 [.optr 0 0] (.rich B :: rest) = some (.tup [], .rich B :: rest) := by
  rw [callW_fun code ext h]
  simp -implicitDefEqProofs [x46, x46L2, den_loop, hB]
theorem nil_40 (h : code 40 = some x40) {B : List AV} {rest : Mem} (hB : B[16]? = some (.imm (.val (.slice none 0 0)))) : callW code ext 40 [.optr 0 0] (.rich B :: rest) = some (.tup [], .rich B :: rest) := by
  rw [callW_fun code ext h]
  simp -implicitDefEqProofs [x40, x40L2, den_loop, hB]
theorem nil_39 (h : code 39 = some x39) {B : List AV} {rest : Mem} (hB : B[17]? = some (.imm (.val (.slice none 0 0)))) : callW code ext 39 [.optr 0 0] (.rich B :: rest) = some (.tup [], .rich B :: rest) := by
  rw [callW_fun code ext h]
  simp -implicitDefEqProofs [x39, x39L2, den_loop, hB]
theorem nil_47 (h : code 47 = some x47) {B : List AV} {rest : Mem} (hB : B[18]? = some (.imm (.val (.slice none 0 0)))) : callW code ext 47 [.optr 0 0] (.rich B :: rest) = some (.tup [], .rich B :: rest) := by
  rw [callW_fun code ext h]
  simp -implicitDefEqProofs [x47, x47L2, den_loop, hB]
theorem nil_36 (h : code 36 = some x36) {B : List AV} {rest : Mem} (hB : B[19]? = some (.imm (.val (.slice none 0 0)))) : callW code ext 36 [.optr 0 0] (.rich B :: rest) = some (.tup [], .rich B :: rest) := by
  rw [callW_fun code ext h]
  simp -implicitDefEqProofs [x36, x36L2, den_loop, hB]
theorem nil_51 (h : code 51 = some x51) {B : List AV} {rest : Mem} (hB : B[20]? = some (.imm (.val (.slice none 0 0)))) : callW code ext 51 [.optr 0 0] (.rich B :: rest) = some (.tup [], .rich B :: rest) := by
  rw [callW_fun code ext h]
  simp -implicitDefEqProofs [x51, x51L2, den_loop, hB]
theorem nil_79 (h : code 79 = some x79) {B : List AV} {rest : Mem} (hB : B[2]? = some (.imm (.val (.slice none 0 0)))) : callW code ext 79 [.optr 0 0] (.rich B :: rest) = some (avb true, .rich B :: rest) := by
  rw [callW_fun code ext h]
  simp -implicitDefEqProofs [x79, x79L2, den_loop, hB]
theorem nil_83 (h : code 83 = some x83) {B : List AV} {rest : Mem} (hB : B[3]? = some (.imm (.val (.slice none 0 0)))) : callW code ext 83 [.optr 0 0] (.rich B :: rest) = some (avb true, .rich B :: rest) := by
  rw [callW_fun code ext h]
  simp -implicitDefEqProofs [x83, x83L2, den_loop, hB]
theorem nil_84 (h : code 84 = some x84) {B : List AV} {rest : Mem} (hB : B[4]? = some (.imm (.val (.slice none 0 0)))) : callW code ext 84 [.optr 0 0] (.rich B :: rest) = some (avb true, .rich B :: rest) := by
  rw [callW_fun code ext h]
  simp -implicitDefEqProofs [x84, x84L2, den_loop, hB]
theorem nil_78 (h : code 78 = some x78) {B : List AV} {rest : Mem} (hB : B[5]? = some (.imm (.val (.slice none 0 0)))) : callW code ext 78 [.optr 0 0] (.rich B :: rest) = some (avb true, .rich B :: rest) := by
  rw [callW_fun code ext h]
  simp -implicitDefEqProofs [x78, x78L2, den_loop, hB]
theorem nil_74 (h : code 74 = some x74) {B : List AV} {rest : Mem} (hB : B[6]? = some (.imm (.val (.slice none 0 0)))) : callW code ext 74 [.optr 0 0] (.rich B :: rest) = some (avb true, .rich B :: rest) := by
  rw [callW_fun code ext h]
  simp -implicitDefEqProofs [x74, x74L2, den_loop, hB]
theorem nil_68 (h : code 68 = some x68) {B : List AV} {rest : Mem} (hB : B[7]? = some (.imm (.val (.slice none 0 0)))) : callW code ext 68 [.optr 0 0] (.rich B :: rest) = some (avb true, .rich B :: rest) := by
  rw [callW_fun code ext h]
  simp -implicitDefEqProofs [x68, x68L2, den_loop, hB]
theorem nil_67 (h : code 67 = some x67) {B : List AV} {rest : Mem} (hB : B[8]? = some (.imm (.val (.slice none 0 0)))) : callW code ext 67 [.optr 0 0] (.rich B :: rest) = some (avb true, .rich B :: rest) := by
  rw [callW_fun code ext h]
  simp -implicitDefEqProofs [x67, x67L2, den_loop, hB]
theorem nil_73 (h : code 73 = some x73) {B : List AV} {rest : Mem} (hB : B[9]? = some (.imm (.val (.slice none 0 0)))) : callW code ext 73 [.optr 0 0] (.rich B :: rest) = some (avb true, .rich B :: rest) := by
  rw [callW_fun code ext h]
  simp -implicitDefEqProofs [x73, x73L2, den_loop, hB]
theorem nil_72 (h : code 72 = some x72) {B : List AV} {rest : Mem} (hB : B[10]? = some (.imm (.val (.slice none 0 0)))) : callW code ext 72 [.optr 0 0] (.rich B :: rest) = some (avb true, .rich B :: rest) := by
  rw [callW_fun code ext h]
  simp -implicitDefEqProofs [x72, x72L2, den_loop, hB]
theorem nil_71 (h : code 71 = some x71) {B : List AV} {rest : Mem} (hB : B[11]? = some (.imm (.val (.slice none 0 0)))) : callW code ext 71 [.optr 0 0] (.rich B :: rest) = some (avb true, .rich B :: rest) := by
  rw [callW_fun code ext h]
  simp -implicitDefEqProofs [x71, x71L2, den_loop, hB]
theorem nil_82 (h : code 82 = some x82) {B : List AV} {rest : Mem} (hB : B[12]? = some (.imm (.val (.slice none 0 0)))) : callW code ext 82 [.optr 0 0] (.rich B :: rest) = some (avb true, .rich B :: rest) := by
  rw [callW_fun code ext h]
  simp -implicitDefEqProofs [x82, x82L2, den_loop, hB]
theorem nil_85 (h : code 85 = some x85) {B : List AV} {rest : Mem} (hB : B[13]? = some (.imm (.val (.slice none 0 0)))) : callW code ext 85 [.optr 0 0] (.rich B :: rest) = some (avb true, .rich B :: rest) := by
  rw [callW_fun code ext h]
  simp -implicitDefEqProofs [x85, x85L2, den_loop, hB]
theorem nil_80 (h : code 80 = some x80) {B : List AV} {rest : Mem} (hB : B[14]? = some (.imm (.val (.slice none 0 0)))) : callW code ext 80 [.optr 0 0] (.rich B :: rest) = some (avb true, .rich B :: rest) := by
  rw [callW_fun code ext h]
  simp -implicitDefEqProofs [x80, x80L2, den_loop, hB]
theorem nil_76 (h : code 76 = some x76) {B : List AV} {rest : Mem} (hB : B[15]? = some (.imm (.val (.slice none 0 0)))) : callW code ext 76 [.optr 0 0] (.rich B :: rest) = some (avb true, .rich B :: rest) := by
  rw [callW_fun code ext h]
  simp -implicitDefEqProofs [x76, x76L2, den_loop, hB]
theorem nil_70 (h : code 70 = some x70) {B : List AV} {rest : Mem} (hB : B[16]? = some (.imm (.val (.slice none 0 0)))) : callW code ext 70 [.optr 0 0] (.rich B :: rest) = some (avb true, .rich B :: rest) := by
  rw [callW_fun code ext h]
  simp -implicitDefEqProofs [x70, x70L2, den_loop, hB]
theorem nil_69 (h : code 69 = some x69) {B : List AV} {rest : Mem} (hB : B[17]? = some (.imm (.val (.slice none 0 0)))) : callW code ext 69 [.optr 0 0] (.rich B :: rest) = some (avb true, .rich B :: rest) := by
  rw [callW_fun code ext h]
  simp -implicitDefEqProofs [x69, x69L2, den_loop, hB]
theorem nil_77 (h : code 77 = some x77) {B : List AV} {rest : Mem} (hB : B[18]? = some (.imm (.val (.slice none 0 0)))) : callW code ext 77 [.optr 0 0] (.rich B :: rest) = some (avb true, .rich B :: rest) := by
  rw [callW_fun code ext h]
  simp -implicitDefEqProofs [x77, x77L2, den_loop, hB]
theorem nil_66 (h : code 66 = some x66) {B : List AV} {rest : Mem} (hB : B[19]? = some (.imm (.val (.slice none 0 0)))) : callW code ext 66 [.optr 0 0] (.rich B :: rest) = some (avb true, .rich B :: rest) := by
  rw [callW_fun code ext h]
  simp -implicitDefEqProofs [x66, x66L2, den_loop, hB]
theorem nil_81 (h : code 81 = some x81) {B : List AV} {rest : Mem} (hB : B[20]? = some (.imm (.val (.slice none 0 0)))) : callW code ext 81 [.optr 0 0] (.rich B :: rest) = some (avb true, .rich B :: rest) := by
  rw [callW_fun code ext h]
  simp -implicitDefEqProofs [x81, x81L2, den_loop, hB]
end
end Go.EX

