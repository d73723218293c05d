import Derived.Test.YtkdgipcfodmceaaGreatNames
/- The texts of the functions, each checked against the program. No condition. -/
set_option maxRecDepth 100000
namespace Go.Rd
open Go.Proofs
-- loop.example/g03003/laws.FnExactNewHouse
def c_laws_FnExactNewHouse_r0 : List GOp := [⟨some 4, none, .asg false (.c (.bool true))⟩]
def c_laws_FnExactNewHouse_r1 : List GOp := [⟨some 4, none, .asg false (.c (.bool false))⟩]
def c_laws_FnExactNewHouse_r2 : List GOp := [⟨some 116, none, .mv (.t 14)⟩,
  ⟨some 117, none, .mv (.t 13)⟩,
  ⟨some 118, none, .bin .neq (.t 116) (.t 117)⟩]
def c_laws_FnExactNewHouse_r3 : List GOp := [⟨some 4, none, .asg false (.c (.bool false))⟩]
def c_laws_FnExactNewHouse_r4 : List GOp := [⟨some 114, none, .mv (.t 14)⟩,
  ⟨some 115, none, .bin .lss (.t 114) (.c (.int .i64 0))⟩]
def c_laws_FnExactNewHouse_r5 : List GOp := [⟨some 111, none, .lda 13 (.t 10)⟩,
  ⟨some 112, none, .mv (.t 14)⟩,
  ⟨some 113, none, .call F_laws_heldHouse [.t 111, .t 112]⟩,
  ⟨some 14, none, .asg true (.t 113)⟩]
def c_laws_FnExactNewHouse_r6 : List GOp := [⟨some 14, none, .asg false (.c (.int .i64 1))⟩]
def c_laws_FnExactNewHouse_r7 : List GOp := [⟨some 4, none, .asg false (.c (.bool false))⟩]
def c_laws_FnExactNewHouse_r8 : List GOp := [⟨some 102, none, .lda 13 (.t 15)⟩,
  ⟨some 103, none, .lda 13 (.t 6)⟩,
  ⟨some 104, none, .call F_laws_eqHouse [.t 102, .t 103]⟩,
  ⟨some 105, none, .not (.t 104)⟩,
  ⟨some 106, none, .mv (.t 105)⟩,
  ⟨some 107, some (106, false), .mv (.t 16)⟩,
  ⟨some 108, some (106, false), .mv (.t 7)⟩,
  ⟨some 109, some (106, false), .eqb true (.t 107) (.t 108)⟩,
  ⟨some 110, none, .pick (.t 106) (.c (.bool true)) (.t 109)⟩]
def c_laws_FnExactNewHouse_r9 : List GOp := [⟨some 95, none, .mv (.t 0)⟩,
  ⟨some 96, none, .call F_laws_toListedS [.t 95]⟩,
  ⟨some 97, none, .mv (.t 1)⟩,
  ⟨some 98, none, .call F_laws_toMeaningS [.t 97]⟩,
  ⟨some 99, none, .call F_impl_NewHouse [.t 96, .t 98]⟩,
  ⟨some 94, none, .mv (.t 99)⟩,
  ⟨some 100, none, .ext (.t 94) 0⟩,
  ⟨some 101, none, .ext (.t 94) 1⟩,
  ⟨some 15, none, .alc [.sl 4 [], .sl 2 [], .int .i64 0, .int .i64 0, .str [], .str [], .sl 2 [], .int .i64 0, .sl 10 [], .sl 2 [], .sl 5 [], .sl 4 [], .int .i64 0]⟩,
  ⟨none, none, .sto 13 (.t 15) (.t 100)⟩,
  ⟨some 16, none, .asg true (.t 101)⟩]
def c_laws_FnExactNewHouse_r10 : List GOp := [⟨some 4, none, .asg false (.c (.bool false))⟩]
def c_laws_FnExactNewHouse_r11 : List GOp := [⟨some 91, none, .mv (.t 14)⟩,
  ⟨some 92, none, .mv (.t 13)⟩,
  ⟨some 93, none, .bin .neq (.t 91) (.t 92)⟩]
def c_laws_FnExactNewHouse_r12 : List GOp := [⟨some 4, none, .asg false (.c (.bool false))⟩]
def c_laws_FnExactNewHouse_r13 : List GOp := [⟨some 89, none, .mv (.t 14)⟩,
  ⟨some 90, none, .bin .lss (.t 89) (.c (.int .i64 0))⟩]
def c_laws_FnExactNewHouse_r14 : List GOp := [⟨some 86, none, .lda 13 (.t 10)⟩,
  ⟨some 87, none, .mv (.t 14)⟩,
  ⟨some 88, none, .call F_laws_heldHouse [.t 86, .t 87]⟩,
  ⟨some 14, none, .asg true (.t 88)⟩]
def c_laws_FnExactNewHouse_r15 : List GOp := [⟨some 14, none, .asg false (.c (.int .i64 1))⟩]
def c_laws_FnExactNewHouse_r16 : List GOp := [⟨some 83, none, .lda 13 (.t 10)⟩,
  ⟨some 84, none, .mv (.t 13)⟩,
  ⟨some 85, none, .call F_laws_markHouse [.t 83, .t 84]⟩,
  ⟨some 13, none, .asg true (.t 85)⟩]
def c_laws_FnExactNewHouse_r17 : List GOp := [⟨some 13, none, .asg false (.c (.int .i64 1))⟩]
def c_laws_FnExactNewHouse_r18 : List GOp := [⟨some 4, none, .asg false (.c (.bool false))⟩]
def c_laws_FnExactNewHouse_r19 : List GOp := [⟨some 70, none, .mv (.t 12)⟩,
  ⟨some 71, none, .bin .lss (.t 70) (.c (.int .i64 0))⟩,
  ⟨some 72, none, .mv (.t 71)⟩,
  ⟨some 73, some (72, false), .lda 13 (.t 10)⟩,
  ⟨some 74, some (72, false), .lda 13 (.t 6)⟩,
  ⟨some 75, some (72, false), .call F_laws_eqHouse [.t 73, .t 74]⟩,
  ⟨some 76, some (72, false), .not (.t 75)⟩,
  ⟨some 77, none, .pick (.t 72) (.c (.bool true)) (.t 76)⟩,
  ⟨some 78, none, .mv (.t 77)⟩,
  ⟨some 79, some (78, false), .mv (.t 11)⟩,
  ⟨some 80, some (78, false), .mv (.t 7)⟩,
  ⟨some 81, some (78, false), .eqb true (.t 79) (.t 80)⟩,
  ⟨some 82, none, .pick (.t 78) (.c (.bool true)) (.t 81)⟩]
def c_laws_FnExactNewHouse_r20 : List GOp := [⟨some 67, none, .mv (.t 9)⟩,
  ⟨some 68, none, .mv (.t 12)⟩,
  ⟨some 69, none, .call F_laws_markMeaningS [.t 67, .t 68]⟩,
  ⟨some 12, none, .asg true (.t 69)⟩]
def c_laws_FnExactNewHouse_r21 : List GOp := [⟨some 64, none, .mv (.t 8)⟩,
  ⟨some 65, none, .mv (.t 12)⟩,
  ⟨some 66, none, .call F_laws_markListedS [.t 64, .t 65]⟩,
  ⟨some 12, none, .asg true (.t 66)⟩]
def c_laws_FnExactNewHouse_r22 : List GOp := [⟨some 12, none, .asg false (.c (.int .i64 1))⟩]
def c_laws_FnExactNewHouse_r23 : List GOp := [⟨some 4, none, .asg false (.c (.bool false))⟩]
def c_laws_FnExactNewHouse_r24 : List GOp := [⟨some 59, none, .mv (.t 9)⟩,
  ⟨some 60, none, .mv (.t 1)⟩,
  ⟨some 61, none, .call F_laws_toMeaningS [.t 60]⟩,
  ⟨some 62, none, .call F_laws_eqMeaningS [.t 59, .t 61]⟩,
  ⟨some 63, none, .not (.t 62)⟩]
def c_laws_FnExactNewHouse_r25 : List GOp := [⟨some 4, none, .asg false (.c (.bool false))⟩]
def c_laws_FnExactNewHouse_r26 : List GOp := [⟨some 54, none, .mv (.t 8)⟩,
  ⟨some 55, none, .mv (.t 0)⟩,
  ⟨some 56, none, .call F_laws_toListedS [.t 55]⟩,
  ⟨some 57, none, .call F_laws_eqListedS [.t 54, .t 56]⟩,
  ⟨some 58, none, .not (.t 57)⟩]
def c_laws_FnExactNewHouse_r27 : List GOp := [⟨some 4, none, .asg false (.c (.bool false))⟩]
def c_laws_FnExactNewHouse_r28 : List GOp := [⟨some 45, none, .lda 13 (.t 10)⟩,
  ⟨some 46, none, .lda 13 (.t 6)⟩,
  ⟨some 47, none, .call F_laws_eqHouse [.t 45, .t 46]⟩,
  ⟨some 48, none, .not (.t 47)⟩,
  ⟨some 49, none, .mv (.t 48)⟩,
  ⟨some 50, some (49, false), .mv (.t 11)⟩,
  ⟨some 51, some (49, false), .mv (.t 7)⟩,
  ⟨some 52, some (49, false), .eqb true (.t 50) (.t 51)⟩,
  ⟨some 53, none, .pick (.t 49) (.c (.bool true)) (.t 52)⟩]
def c_laws_FnExactNewHouse_r29 : List GOp := [⟨some 40, none, .mv (.t 8)⟩,
  ⟨some 41, none, .mv (.t 9)⟩,
  ⟨some 42, none, .call F_impl_NewHouse [.t 40, .t 41]⟩,
  ⟨some 39, none, .mv (.t 42)⟩,
  ⟨some 43, none, .ext (.t 39) 0⟩,
  ⟨some 44, none, .ext (.t 39) 1⟩,
  ⟨some 10, none, .alc [.sl 4 [], .sl 2 [], .int .i64 0, .int .i64 0, .str [], .str [], .sl 2 [], .int .i64 0, .sl 10 [], .sl 2 [], .sl 5 [], .sl 4 [], .int .i64 0]⟩,
  ⟨none, none, .sto 13 (.t 10) (.t 43)⟩,
  ⟨some 11, none, .asg true (.t 44)⟩]
def c_laws_FnExactNewHouse_r30 : List GOp := [⟨some 37, none, .mv (.t 1)⟩,
  ⟨some 38, none, .call F_laws_toMeaningS [.t 37]⟩,
  ⟨some 9, none, .asg true (.t 38)⟩]
def c_laws_FnExactNewHouse_r31 : List GOp := [⟨some 35, none, .mv (.t 0)⟩,
  ⟨some 36, none, .call F_laws_toListedS [.t 35]⟩,
  ⟨some 8, none, .asg true (.t 36)⟩]
def c_laws_FnExactNewHouse_r32 : List GOp := [⟨some 28, none, .mv (.t 0)⟩,
  ⟨some 29, none, .call F_laws_toListedS [.t 28]⟩,
  ⟨some 30, none, .mv (.t 1)⟩,
  ⟨some 31, none, .call F_laws_toMeaningS [.t 30]⟩,
  ⟨some 32, none, .call F_spec_NewHouse [.t 29, .t 31]⟩,
  ⟨some 27, none, .mv (.t 32)⟩,
  ⟨some 33, none, .ext (.t 27) 0⟩,
  ⟨some 34, none, .ext (.t 27) 1⟩,
  ⟨some 6, none, .alc [.sl 4 [], .sl 2 [], .int .i64 0, .int .i64 0, .str [], .str [], .sl 2 [], .int .i64 0, .sl 10 [], .sl 2 [], .sl 5 [], .sl 4 [], .int .i64 0]⟩,
  ⟨none, none, .sto 13 (.t 6) (.t 33)⟩,
  ⟨some 7, none, .asg true (.t 34)⟩]
def c_laws_FnExactNewHouse_r33 : List GOp := [⟨some 4, none, .asg false (.c (.bool true))⟩]
def c_laws_FnExactNewHouse_r34 : List GOp := [⟨some 25, none, .mv (.t 5)⟩,
  ⟨some 26, none, .bin .lss (.t 25) (.c (.int .i64 0))⟩]
def c_laws_FnExactNewHouse_r35 : List GOp := [⟨some 22, none, .mv (.t 1)⟩,
  ⟨some 23, none, .mv (.t 5)⟩,
  ⟨some 24, none, .call F_laws_szMeaningS [.t 22, .t 23]⟩,
  ⟨some 5, none, .asg true (.t 24)⟩]
def c_laws_FnExactNewHouse_r36 : List GOp := [⟨some 4, none, .asg false (.c (.bool true))⟩]
def c_laws_FnExactNewHouse_r37 : List GOp := [⟨some 20, none, .mv (.t 5)⟩,
  ⟨some 21, none, .bin .lss (.t 20) (.c (.int .i64 0))⟩]
def c_laws_FnExactNewHouse_r38 : List GOp := [⟨some 17, none, .mv (.t 0)⟩,
  ⟨some 18, none, .mv (.t 5)⟩,
  ⟨some 19, none, .call F_laws_szListedS [.t 17, .t 18]⟩,
  ⟨some 5, none, .asg true (.t 19)⟩]
def c_laws_FnExactNewHouse_r39 : List GOp := [⟨some 5, none, .asg false (.c (.int .i64 1048576))⟩]
def c_laws_FnExactNewHouse_r40 : List GOp := [⟨some 4, none, .asg false (.c (.bool false))⟩]
def c_laws_FnExactNewHouse : CC := .seq (.reg none c_laws_FnExactNewHouse_r40 [0, 1, 1000, 1001, 1002, 1003, 1004, 1005, 1006, 1007, 1008, 1009]) (.seq (.reg none c_laws_FnExactNewHouse_r39 [0, 1, 5, 1000, 1001, 1002, 1003, 1004, 1005, 1006, 1007, 1008, 1009]) (.seq (.reg none c_laws_FnExactNewHouse_r38 [0, 1, 5, 1000, 1001, 1002, 1003, 1004, 1005, 1006, 1007, 1008, 1009]) (.seq (.seq (.reg none c_laws_FnExactNewHouse_r37 [0, 1, 5, 21, 1000, 1001, 1002, 1003, 1004, 1005, 1006, 1007, 1008, 1009]) (.cnd (.t 21) (.seq (.reg none c_laws_FnExactNewHouse_r36 [4, 1000, 1001, 1002, 1003, 1004, 1005, 1006, 1007, 1008, 1009]) (.ret)) (.skip))) (.seq (.reg none c_laws_FnExactNewHouse_r35 [0, 1, 5, 1000, 1001, 1002, 1003, 1004, 1005, 1006, 1007, 1008, 1009]) (.seq (.seq (.reg none c_laws_FnExactNewHouse_r34 [0, 1, 26, 1000, 1001, 1002, 1003, 1004, 1005, 1006, 1007, 1008, 1009]) (.cnd (.t 26) (.seq (.reg none c_laws_FnExactNewHouse_r33 [4, 1000, 1001, 1002, 1003, 1004, 1005, 1006, 1007, 1008, 1009]) (.ret)) (.skip))) (.seq (.reg none c_laws_FnExactNewHouse_r32 [0, 1, 6, 7, 1000, 1001, 1002, 1003, 1004, 1005, 1006, 1007, 1008, 1009]) (.seq (.reg none c_laws_FnExactNewHouse_r31 [0, 1, 6, 7, 8, 1000, 1001, 1002, 1003, 1004, 1005, 1006, 1007, 1008, 1009]) (.seq (.reg none c_laws_FnExactNewHouse_r30 [0, 1, 6, 7, 8, 9, 1000, 1001, 1002, 1003, 1004, 1005, 1006, 1007, 1008, 1009]) (.seq (.reg none c_laws_FnExactNewHouse_r29 [0, 1, 6, 7, 8, 9, 10, 11, 1000, 1001, 1002, 1003, 1004, 1005, 1006, 1007, 1008, 1009]) (.seq (.seq (.reg none c_laws_FnExactNewHouse_r28 [0, 1, 6, 7, 8, 9, 10, 11, 53, 1000, 1001, 1002, 1003, 1004, 1005, 1006, 1007, 1008, 1009]) (.cnd (.t 53) (.seq (.reg none c_laws_FnExactNewHouse_r27 [4, 1000, 1001, 1002, 1003, 1004, 1005, 1006, 1007, 1008, 1009]) (.ret)) (.skip))) (.seq (.seq (.reg none c_laws_FnExactNewHouse_r26 [0, 1, 6, 7, 8, 9, 10, 11, 58, 1000, 1001, 1002, 1003, 1004, 1005, 1006, 1007, 1008, 1009]) (.cnd (.t 58) (.seq (.reg none c_laws_FnExactNewHouse_r25 [4, 1000, 1001, 1002, 1003, 1004, 1005, 1006, 1007, 1008, 1009]) (.ret)) (.skip))) (.seq (.seq (.reg none c_laws_FnExactNewHouse_r24 [0, 1, 6, 7, 8, 9, 10, 11, 63, 1000, 1001, 1002, 1003, 1004, 1005, 1006, 1007, 1008, 1009]) (.cnd (.t 63) (.seq (.reg none c_laws_FnExactNewHouse_r23 [4, 1000, 1001, 1002, 1003, 1004, 1005, 1006, 1007, 1008, 1009]) (.ret)) (.skip))) (.seq (.reg none c_laws_FnExactNewHouse_r22 [0, 1, 6, 7, 8, 9, 10, 11, 12, 1000, 1001, 1002, 1003, 1004, 1005, 1006, 1007, 1008, 1009]) (.seq (.reg none c_laws_FnExactNewHouse_r21 [0, 1, 6, 7, 9, 10, 11, 12, 1000, 1001, 1002, 1003, 1004, 1005, 1006, 1007, 1008, 1009]) (.seq (.reg none c_laws_FnExactNewHouse_r20 [0, 1, 6, 7, 10, 11, 12, 1000, 1001, 1002, 1003, 1004, 1005, 1006, 1007, 1008, 1009]) (.seq (.seq (.reg none c_laws_FnExactNewHouse_r19 [0, 1, 6, 7, 10, 82, 1000, 1001, 1002, 1003, 1004, 1005, 1006, 1007, 1008, 1009]) (.cnd (.t 82) (.seq (.reg none c_laws_FnExactNewHouse_r18 [4, 1000, 1001, 1002, 1003, 1004, 1005, 1006, 1007, 1008, 1009]) (.ret)) (.skip))) (.seq (.reg none c_laws_FnExactNewHouse_r17 [0, 1, 6, 7, 10, 13, 1000, 1001, 1002, 1003, 1004, 1005, 1006, 1007, 1008, 1009]) (.seq (.reg none c_laws_FnExactNewHouse_r16 [0, 1, 6, 7, 10, 13, 1000, 1001, 1002, 1003, 1004, 1005, 1006, 1007, 1008, 1009]) (.seq (.reg none c_laws_FnExactNewHouse_r15 [0, 1, 6, 7, 10, 13, 14, 1000, 1001, 1002, 1003, 1004, 1005, 1006, 1007, 1008, 1009]) (.seq (.reg none c_laws_FnExactNewHouse_r14 [0, 1, 6, 7, 10, 13, 14, 1000, 1001, 1002, 1003, 1004, 1005, 1006, 1007, 1008, 1009]) (.seq (.seq (.reg none c_laws_FnExactNewHouse_r13 [0, 1, 6, 7, 10, 13, 14, 90, 1000, 1001, 1002, 1003, 1004, 1005, 1006, 1007, 1008, 1009]) (.cnd (.t 90) (.seq (.reg none c_laws_FnExactNewHouse_r12 [4, 1000, 1001, 1002, 1003, 1004, 1005, 1006, 1007, 1008, 1009]) (.ret)) (.skip))) (.seq (.seq (.reg none c_laws_FnExactNewHouse_r11 [0, 1, 6, 7, 10, 13, 93, 1000, 1001, 1002, 1003, 1004, 1005, 1006, 1007, 1008, 1009]) (.cnd (.t 93) (.seq (.reg none c_laws_FnExactNewHouse_r10 [4, 1000, 1001, 1002, 1003, 1004, 1005, 1006, 1007, 1008, 1009]) (.ret)) (.skip))) (.seq (.reg none c_laws_FnExactNewHouse_r9 [6, 7, 10, 13, 15, 16, 1000, 1001, 1002, 1003, 1004, 1005, 1006, 1007, 1008, 1009]) (.seq (.seq (.reg none c_laws_FnExactNewHouse_r8 [10, 13, 110, 1000, 1001, 1002, 1003, 1004, 1005, 1006, 1007, 1008, 1009]) (.cnd (.t 110) (.seq (.reg none c_laws_FnExactNewHouse_r7 [4, 1000, 1001, 1002, 1003, 1004, 1005, 1006, 1007, 1008, 1009]) (.ret)) (.skip))) (.seq (.reg none c_laws_FnExactNewHouse_r6 [10, 13, 14, 1000, 1001, 1002, 1003, 1004, 1005, 1006, 1007, 1008, 1009]) (.seq (.reg none c_laws_FnExactNewHouse_r5 [13, 14, 1000, 1001, 1002, 1003, 1004, 1005, 1006, 1007, 1008, 1009]) (.seq (.seq (.reg none c_laws_FnExactNewHouse_r4 [13, 14, 115, 1000, 1001, 1002, 1003, 1004, 1005, 1006, 1007, 1008, 1009]) (.cnd (.t 115) (.seq (.reg none c_laws_FnExactNewHouse_r3 [4, 1000, 1001, 1002, 1003, 1004, 1005, 1006, 1007, 1008, 1009]) (.ret)) (.skip))) (.seq (.seq (.reg none c_laws_FnExactNewHouse_r2 [118, 1000, 1001, 1002, 1003, 1004, 1005, 1006, 1007, 1008, 1009]) (.cnd (.t 118) (.seq (.reg none c_laws_FnExactNewHouse_r1 [4, 1000, 1001, 1002, 1003, 1004, 1005, 1006, 1007, 1008, 1009]) (.ret)) (.skip))) (.seq (.reg none c_laws_FnExactNewHouse_r0 [4, 1000, 1001, 1002, 1003, 1004, 1005, 1006, 1007, 1008, 1009]) (.ret))))))))))))))))))))))))))))))
theorem k_laws_FnExactNewHouse : chkF Tryz.prog Tryz.f3 c_laws_FnExactNewHouse [.tmp 4] = true := by kernel_rfl
theorem S_laws_FnExactNewHouse {args : List AV} {r : List RV} (hs : sizeXs Tryz.prog Tryz.f3.results.toList r = true) (hn : args.length ≤ 119) (h : Run Tryz.prog [.tmp 4] [.code c_laws_FnExactNewHouse] (argEnv args 0) r) : CallsOK Tryz.prog F_laws_FnExactNewHouse args r := callsOK Tryz.func3 k_laws_FnExactNewHouse hs hn h
theorem SH_laws_FnExactNewHouse {args : (Nat → Value) → List AV} {res : (Nat → Value) → List RV} {hin hout : List HT} (ni no : List Nat) (hs : ∀ v, sizeXs Tryz.prog Tryz.f3.results.toList (res v) = true) (hn : ∀ v, (args v).length ≤ 119 ∧ ∀ n ∈ ni, (args v).length ≤ n) (hni : ni.Nodup) (hno : no.Nodup) (h : ∀ u : Gh, RunQ Tryz.prog (fun E => ∃ u' : Gh, resP E [.tmp 4] = some (res u'.1) ∧ (∀ i, i < hin.length → u'.1 i = u.1 i) ∧ GetH E (fun i => decide (hin.length ≤ i)) u' no hout 0) [.code c_laws_FnExactNewHouse] (envH (fun _ => false) u ni hin 0 ++ argEnv (args u.1) 0)) : CallsH Tryz.prog F_laws_FnExactNewHouse hin hout args res := callsH_of_run ni no Tryz.func3 k_laws_FnExactNewHouse hs hn hni hno h

-- loop.example/g03003/laws.szListedS
def c_laws_szListedS_r0 : List GOp := [⟨some 26, none, .mv (.t 1)⟩,
  ⟨some 4, none, .asg true (.t 26)⟩]
def c_laws_szListedS_r1 : List GOp := [⟨some 16, none, .mv (.t 5)⟩,
  ⟨some 17, none, .bin .add (.t 16) (.c (.int .i64 1))⟩,
  ⟨some 5, none, .asg true (.t 17)⟩]
def c_laws_szListedS_r2 : List GOp := [⟨some 4, none, .asg false (.c (.int .i64 (-1)))⟩]
def c_laws_szListedS_r3 : List GOp := [⟨some 24, none, .mv (.t 1)⟩,
  ⟨some 25, none, .bin .lss (.t 24) (.c (.int .i64 0))⟩]
def c_laws_szListedS_r4 : List GOp := [⟨some 18, none, .mv (.t 0)⟩,
  ⟨some 19, none, .mv (.t 5)⟩,
  ⟨some 20, none, .idx 4 (.t 18) (.t 19)⟩,
  ⟨some 21, none, .lda 4 (.t 20)⟩,
  ⟨some 22, none, .mv (.t 1)⟩,
  ⟨some 23, none, .call F_laws_szListed [.t 21, .t 22]⟩,
  ⟨some 1, none, .asg true (.t 23)⟩]
def c_laws_szListedS_r5 : List GOp := [⟨some 12, none, .mv (.t 5)⟩,
  ⟨some 13, none, .mv (.t 0)⟩,
  ⟨some 14, none, .len (.t 13)⟩,
  ⟨some 15, none, .bin .lss (.t 12) (.t 14)⟩]
def c_laws_szListedS_b0 : CC := .seq (.seq (.reg none c_laws_szListedS_r5 [0, 1, 5, 15]) (.cnd (.t 15) (.skip) (.exit 0))) (.seq (.blk 1 (.seq (.reg none c_laws_szListedS_r4 [0, 1, 5]) (.seq (.reg none c_laws_szListedS_r3 [0, 1, 5, 25]) (.cnd (.t 25) (.seq (.reg none c_laws_szListedS_r2 [4]) (.ret)) (.skip))))) (.reg none c_laws_szListedS_r1 [0, 1, 5]))
def c_laws_szListedS_r6 : List GOp := [⟨some 5, none, .asg false (.c (.int .i64 0))⟩]
def c_laws_szListedS_r7 : List GOp := [⟨some 4, none, .asg false (.c (.int .i64 (-1)))⟩]
def c_laws_szListedS_r8 : List GOp := [⟨some 10, none, .mv (.t 1)⟩,
  ⟨some 11, none, .bin .lss (.t 10) (.c (.int .i64 0))⟩]
def c_laws_szListedS_r9 : List GOp := [⟨some 6, none, .mv (.t 1)⟩,
  ⟨some 7, none, .mv (.t 0)⟩,
  ⟨some 8, none, .len (.t 7)⟩,
  ⟨some 9, none, .bin .sub (.t 6) (.t 8)⟩,
  ⟨some 1, none, .asg true (.t 9)⟩]
def c_laws_szListedS_r10 : List GOp := [⟨some 4, none, .asg false (.c (.int .i64 0))⟩]
def c_laws_szListedS : CC := .seq (.reg none c_laws_szListedS_r10 [0, 1]) (.seq (.reg none c_laws_szListedS_r9 [0, 1]) (.seq (.seq (.reg none c_laws_szListedS_r8 [0, 1, 11]) (.cnd (.t 11) (.seq (.reg none c_laws_szListedS_r7 [4]) (.ret)) (.skip))) (.seq (.seq (.reg none c_laws_szListedS_r6 [0, 1, 5]) (.blk 0 (.loop c_laws_szListedS_b0 [0, 1, 5]))) (.seq (.reg none c_laws_szListedS_r0 [4]) (.ret)))))
abbrev L_laws_szListedS_0 (P : Program) (E : Env) (r : List RV) : Prop := Run P [.tmp 4] (.code c_laws_szListedS_b0 :: .lp c_laws_szListedS_b0 [0, 1, 5] :: [.blk 0, .code (.seq (.reg none c_laws_szListedS_r0 [4]) (.ret))]) E r
theorem k_laws_szListedS : chkF Tryz.prog Tryz.f12 c_laws_szListedS [.tmp 4] = true := by kernel_rfl
theorem S_laws_szListedS {args : List AV} {r : List RV} (hs : sizeXs Tryz.prog Tryz.f12.results.toList r = true) (hn : args.length ≤ 27) (h : Run Tryz.prog [.tmp 4] [.code c_laws_szListedS] (argEnv args 0) r) : CallsOK Tryz.prog F_laws_szListedS args r := callsOK Tryz.func12 k_laws_szListedS hs hn h

-- loop.example/g03003/laws.szMeaningS
def c_laws_szMeaningS_r0 : List GOp := [⟨some 26, none, .mv (.t 1)⟩,
  ⟨some 4, none, .asg true (.t 26)⟩]
def c_laws_szMeaningS_r1 : List GOp := [⟨some 16, none, .mv (.t 5)⟩,
  ⟨some 17, none, .bin .add (.t 16) (.c (.int .i64 1))⟩,
  ⟨some 5, none, .asg true (.t 17)⟩]
def c_laws_szMeaningS_r2 : List GOp := [⟨some 4, none, .asg false (.c (.int .i64 (-1)))⟩]
def c_laws_szMeaningS_r3 : List GOp := [⟨some 24, none, .mv (.t 1)⟩,
  ⟨some 25, none, .bin .lss (.t 24) (.c (.int .i64 0))⟩]
def c_laws_szMeaningS_r4 : List GOp := [⟨some 18, none, .mv (.t 0)⟩,
  ⟨some 19, none, .mv (.t 5)⟩,
  ⟨some 20, none, .idx 2 (.t 18) (.t 19)⟩,
  ⟨some 21, none, .lda 2 (.t 20)⟩,
  ⟨some 22, none, .mv (.t 1)⟩,
  ⟨some 23, none, .call F_laws_szMeaning [.t 21, .t 22]⟩,
  ⟨some 1, none, .asg true (.t 23)⟩]
def c_laws_szMeaningS_r5 : List GOp := [⟨some 12, none, .mv (.t 5)⟩,
  ⟨some 13, none, .mv (.t 0)⟩,
  ⟨some 14, none, .len (.t 13)⟩,
  ⟨some 15, none, .bin .lss (.t 12) (.t 14)⟩]
def c_laws_szMeaningS_b0 : CC := .seq (.seq (.reg none c_laws_szMeaningS_r5 [0, 1, 5, 15]) (.cnd (.t 15) (.skip) (.exit 0))) (.seq (.blk 1 (.seq (.reg none c_laws_szMeaningS_r4 [0, 1, 5]) (.seq (.reg none c_laws_szMeaningS_r3 [0, 1, 5, 25]) (.cnd (.t 25) (.seq (.reg none c_laws_szMeaningS_r2 [4]) (.ret)) (.skip))))) (.reg none c_laws_szMeaningS_r1 [0, 1, 5]))
def c_laws_szMeaningS_r6 : List GOp := [⟨some 5, none, .asg false (.c (.int .i64 0))⟩]
def c_laws_szMeaningS_r7 : List GOp := [⟨some 4, none, .asg false (.c (.int .i64 (-1)))⟩]
def c_laws_szMeaningS_r8 : List GOp := [⟨some 10, none, .mv (.t 1)⟩,
  ⟨some 11, none, .bin .lss (.t 10) (.c (.int .i64 0))⟩]
def c_laws_szMeaningS_r9 : List GOp := [⟨some 6, none, .mv (.t 1)⟩,
  ⟨some 7, none, .mv (.t 0)⟩,
  ⟨some 8, none, .len (.t 7)⟩,
  ⟨some 9, none, .bin .sub (.t 6) (.t 8)⟩,
  ⟨some 1, none, .asg true (.t 9)⟩]
def c_laws_szMeaningS_r10 : List GOp := [⟨some 4, none, .asg false (.c (.int .i64 0))⟩]
def c_laws_szMeaningS : CC := .seq (.reg none c_laws_szMeaningS_r10 [0, 1]) (.seq (.reg none c_laws_szMeaningS_r9 [0, 1]) (.seq (.seq (.reg none c_laws_szMeaningS_r8 [0, 1, 11]) (.cnd (.t 11) (.seq (.reg none c_laws_szMeaningS_r7 [4]) (.ret)) (.skip))) (.seq (.seq (.reg none c_laws_szMeaningS_r6 [0, 1, 5]) (.blk 0 (.loop c_laws_szMeaningS_b0 [0, 1, 5]))) (.seq (.reg none c_laws_szMeaningS_r0 [4]) (.ret)))))
abbrev L_laws_szMeaningS_0 (P : Program) (E : Env) (r : List RV) : Prop := Run P [.tmp 4] (.code c_laws_szMeaningS_b0 :: .lp c_laws_szMeaningS_b0 [0, 1, 5] :: [.blk 0, .code (.seq (.reg none c_laws_szMeaningS_r0 [4]) (.ret))]) E r
theorem k_laws_szMeaningS : chkF Tryz.prog Tryz.f13 c_laws_szMeaningS [.tmp 4] = true := by kernel_rfl
theorem S_laws_szMeaningS {args : List AV} {r : List RV} (hs : sizeXs Tryz.prog Tryz.f13.results.toList r = true) (hn : args.length ≤ 27) (h : Run Tryz.prog [.tmp 4] [.code c_laws_szMeaningS] (argEnv args 0) r) : CallsOK Tryz.prog F_laws_szMeaningS args r := callsOK Tryz.func13 k_laws_szMeaningS hs hn h

-- loop.example/g03003/spec.NewHouse
def c_spec_NewHouse_r0 : List GOp := [⟨some 15, none, .lda 13 (.t 6)⟩,
  ⟨none, none, .sto 13 (.t 4) (.t 15)⟩,
  ⟨some 5, none, .asg false (.c (.bool true))⟩]
def c_spec_NewHouse_r1 : List GOp := [⟨some 14, none, .bld [.sl 4 [], .sl 2 [], .int .i64 0, .int .i64 0, .str [], .str [], .sl 2 [], .int .i64 0, .sl 10 [], .sl 2 [], .sl 5 [], .sl 4 [], .int .i64 0] []⟩,
  ⟨none, none, .sto 13 (.t 4) (.t 14)⟩,
  ⟨some 5, none, .asg false (.c (.bool false))⟩]
def c_spec_NewHouse_r2 : List GOp := [⟨some 11, none, .lda 13 (.t 6)⟩,
  ⟨some 12, none, .call F_spec_IsHouse [.t 11]⟩,
  ⟨some 13, none, .not (.t 12)⟩]
def c_spec_NewHouse_r3 : List GOp := [⟨some 7, none, .mv (.t 0)⟩,
  ⟨some 8, none, .mv (.t 1)⟩,
  ⟨some 9, none, .bld [.sl 4 [], .sl 2 [], .int .i64 0, .int .i64 0, .str [], .str [], .sl 2 [], .int .i64 0, .sl 10 [], .sl 2 [], .sl 5 [], .sl 4 [], .int .i64 0] [(0, 1, .t 7), (1, 1, .t 8)]⟩,
  ⟨some 10, none, .call F_spec_l33Copy [.t 9]⟩,
  ⟨some 6, none, .alc [.sl 4 [], .sl 2 [], .int .i64 0, .int .i64 0, .str [], .str [], .sl 2 [], .int .i64 0, .sl 10 [], .sl 2 [], .sl 5 [], .sl 4 [], .int .i64 0]⟩,
  ⟨none, none, .sto 13 (.t 6) (.t 10)⟩]
def c_spec_NewHouse_r4 : List GOp := [⟨some 4, none, .alc [.sl 4 [], .sl 2 [], .int .i64 0, .int .i64 0, .str [], .str [], .sl 2 [], .int .i64 0, .sl 10 [], .sl 2 [], .sl 5 [], .sl 4 [], .int .i64 0]⟩,
  ⟨some 5, none, .asg false (.c (.bool false))⟩]
def c_spec_NewHouse : CC := .seq (.reg none c_spec_NewHouse_r4 [0, 1, 4]) (.seq (.reg none c_spec_NewHouse_r3 [4, 6]) (.seq (.seq (.reg none c_spec_NewHouse_r2 [4, 6, 13]) (.cnd (.t 13) (.seq (.reg none c_spec_NewHouse_r1 [4, 5]) (.ret)) (.skip))) (.seq (.reg none c_spec_NewHouse_r0 [4, 5]) (.ret))))
theorem k_spec_NewHouse : chkF Tryz.prog Tryz.f14 c_spec_NewHouse [.cella 4, .tmp 5] = true := by kernel_rfl
theorem S_spec_NewHouse {args : List AV} {r : List RV} (hs : sizeXs Tryz.prog Tryz.f14.results.toList r = true) (hn : args.length ≤ 16) (h : Run Tryz.prog [.cella 4, .tmp 5] [.code c_spec_NewHouse] (argEnv args 0) r) : CallsOK Tryz.prog F_spec_NewHouse args r := callsOK Tryz.func14 k_spec_NewHouse hs hn h

-- loop.example/g03003/laws.toListedS
def c_laws_toListedS_r0 : List GOp := [⟨some 22, none, .mv (.t 3)⟩,
  ⟨some 2, none, .asg true (.t 22)⟩]
def c_laws_toListedS_r1 : List GOp := [⟨some 12, none, .mv (.t 4)⟩,
  ⟨some 13, none, .bin .add (.t 12) (.c (.int .i64 1))⟩,
  ⟨some 4, none, .asg true (.t 13)⟩]
def c_laws_toListedS_r2 : List GOp := [⟨some 14, none, .mv (.t 3)⟩,
  ⟨some 15, none, .mv (.t 4)⟩,
  ⟨some 16, none, .mv (.t 0)⟩,
  ⟨some 17, none, .mv (.t 4)⟩,
  ⟨some 18, none, .idx 4 (.t 16) (.t 17)⟩,
  ⟨some 19, none, .lda 4 (.t 18)⟩,
  ⟨some 20, none, .call F_laws_toListed [.t 19]⟩,
  ⟨some 21, none, .idx 4 (.t 14) (.t 15)⟩,
  ⟨none, none, .sto 4 (.t 21) (.t 20)⟩]
def c_laws_toListedS_r3 : List GOp := [⟨some 8, none, .mv (.t 4)⟩,
  ⟨some 9, none, .mv (.t 0)⟩,
  ⟨some 10, none, .len (.t 9)⟩,
  ⟨some 11, none, .bin .lss (.t 8) (.t 10)⟩]
def c_laws_toListedS_b0 : CC := .seq (.seq (.reg none c_laws_toListedS_r3 [0, 3, 4, 11]) (.cnd (.t 11) (.skip) (.exit 0))) (.seq (.blk 1 (.reg none c_laws_toListedS_r2 [0, 3, 4])) (.reg none c_laws_toListedS_r1 [0, 3, 4]))
def c_laws_toListedS_r4 : List GOp := [⟨some 4, none, .asg false (.c (.int .i64 0))⟩]
def c_laws_toListedS_r5 : List GOp := [⟨some 5, none, .mv (.t 0)⟩,
  ⟨some 6, none, .len (.t 5)⟩,
  ⟨some 7, none, .mks T_impl_Listed 4 40 [.str [], .int .i64 0, .int .i64 0, .int .i64 0] (.t 6)⟩,
  ⟨some 3, none, .asg true (.t 7)⟩]
def c_laws_toListedS_r6 : List GOp := [⟨some 2, none, .nilo T_impl_Listed 4 40⟩]
def c_laws_toListedS : CC := .seq (.reg none c_laws_toListedS_r6 [0]) (.seq (.reg none c_laws_toListedS_r5 [0, 3]) (.seq (.seq (.reg none c_laws_toListedS_r4 [0, 3, 4]) (.blk 0 (.loop c_laws_toListedS_b0 [0, 3, 4]))) (.seq (.reg none c_laws_toListedS_r0 [2]) (.ret))))
abbrev L_laws_toListedS_0 (P : Program) (E : Env) (r : List RV) : Prop := Run P [.tmp 2] (.code c_laws_toListedS_b0 :: .lp c_laws_toListedS_b0 [0, 3, 4] :: [.blk 0, .code (.seq (.reg none c_laws_toListedS_r0 [2]) (.ret))]) E r
theorem k_laws_toListedS : chkF Tryz.prog Tryz.f15 c_laws_toListedS [.tmp 2] = true := by kernel_rfl
theorem S_laws_toListedS {args : List AV} {r : List RV} (hs : sizeXs Tryz.prog Tryz.f15.results.toList r = true) (hn : args.length ≤ 23) (h : Run Tryz.prog [.tmp 2] [.code c_laws_toListedS] (argEnv args 0) r) : CallsOK Tryz.prog F_laws_toListedS args r := callsOK Tryz.func15 k_laws_toListedS hs hn h

-- loop.example/g03003/laws.toMeaningS
def c_laws_toMeaningS_r0 : List GOp := [⟨some 22, none, .mv (.t 3)⟩,
  ⟨some 2, none, .asg true (.t 22)⟩]
def c_laws_toMeaningS_r1 : List GOp := [⟨some 12, none, .mv (.t 4)⟩,
  ⟨some 13, none, .bin .add (.t 12) (.c (.int .i64 1))⟩,
  ⟨some 4, none, .asg true (.t 13)⟩]
def c_laws_toMeaningS_r2 : List GOp := [⟨some 14, none, .mv (.t 3)⟩,
  ⟨some 15, none, .mv (.t 4)⟩,
  ⟨some 16, none, .mv (.t 0)⟩,
  ⟨some 17, none, .mv (.t 4)⟩,
  ⟨some 18, none, .idx 2 (.t 16) (.t 17)⟩,
  ⟨some 19, none, .lda 2 (.t 18)⟩,
  ⟨some 20, none, .call F_laws_toMeaning [.t 19]⟩,
  ⟨some 21, none, .idx 2 (.t 14) (.t 15)⟩,
  ⟨none, none, .sto 2 (.t 21) (.t 20)⟩]
def c_laws_toMeaningS_r3 : List GOp := [⟨some 8, none, .mv (.t 4)⟩,
  ⟨some 9, none, .mv (.t 0)⟩,
  ⟨some 10, none, .len (.t 9)⟩,
  ⟨some 11, none, .bin .lss (.t 8) (.t 10)⟩]
def c_laws_toMeaningS_b0 : CC := .seq (.seq (.reg none c_laws_toMeaningS_r3 [0, 3, 4, 11]) (.cnd (.t 11) (.skip) (.exit 0))) (.seq (.blk 1 (.reg none c_laws_toMeaningS_r2 [0, 3, 4])) (.reg none c_laws_toMeaningS_r1 [0, 3, 4]))
def c_laws_toMeaningS_r4 : List GOp := [⟨some 4, none, .asg false (.c (.int .i64 0))⟩]
def c_laws_toMeaningS_r5 : List GOp := [⟨some 5, none, .mv (.t 0)⟩,
  ⟨some 6, none, .len (.t 5)⟩,
  ⟨some 7, none, .mks T_impl_Meaning 2 24 [.str [], .int .i64 0] (.t 6)⟩,
  ⟨some 3, none, .asg true (.t 7)⟩]
def c_laws_toMeaningS_r6 : List GOp := [⟨some 2, none, .nilo T_impl_Meaning 2 24⟩]
def c_laws_toMeaningS : CC := .seq (.reg none c_laws_toMeaningS_r6 [0]) (.seq (.reg none c_laws_toMeaningS_r5 [0, 3]) (.seq (.seq (.reg none c_laws_toMeaningS_r4 [0, 3, 4]) (.blk 0 (.loop c_laws_toMeaningS_b0 [0, 3, 4]))) (.seq (.reg none c_laws_toMeaningS_r0 [2]) (.ret))))
abbrev L_laws_toMeaningS_0 (P : Program) (E : Env) (r : List RV) : Prop := Run P [.tmp 2] (.code c_laws_toMeaningS_b0 :: .lp c_laws_toMeaningS_b0 [0, 3, 4] :: [.blk 0, .code (.seq (.reg none c_laws_toMeaningS_r0 [2]) (.ret))]) E r
theorem k_laws_toMeaningS : chkF Tryz.prog Tryz.f16 c_laws_toMeaningS [.tmp 2] = true := by kernel_rfl
theorem S_laws_toMeaningS {args : List AV} {r : List RV} (hs : sizeXs Tryz.prog Tryz.f16.results.toList r = true) (hn : args.length ≤ 23) (h : Run Tryz.prog [.tmp 2] [.code c_laws_toMeaningS] (argEnv args 0) r) : CallsOK Tryz.prog F_laws_toMeaningS args r := callsOK Tryz.func16 k_laws_toMeaningS hs hn h

-- loop.example/g03003/impl.NewHouse
def c_impl_NewHouse_r0 : List GOp := [⟨some 15, none, .lda 13 (.t 6)⟩,
  ⟨none, none, .sto 13 (.t 4) (.t 15)⟩,
  ⟨some 5, none, .asg false (.c (.bool true))⟩]
def c_impl_NewHouse_r1 : List GOp := [⟨some 14, none, .bld [.sl 4 [], .sl 2 [], .int .i64 0, .int .i64 0, .str [], .str [], .sl 2 [], .int .i64 0, .sl 10 [], .sl 2 [], .sl 5 [], .sl 4 [], .int .i64 0] []⟩,
  ⟨none, none, .sto 13 (.t 4) (.t 14)⟩,
  ⟨some 5, none, .asg false (.c (.bool false))⟩]
def c_impl_NewHouse_r2 : List GOp := [⟨some 11, none, .lda 13 (.t 6)⟩,
  ⟨some 12, none, .call F_impl_IsHouse [.t 11]⟩,
  ⟨some 13, none, .not (.t 12)⟩]
def c_impl_NewHouse_r3 : List GOp := [⟨some 7, none, .mv (.t 0)⟩,
  ⟨some 8, none, .mv (.t 1)⟩,
  ⟨some 9, none, .bld [.sl 4 [], .sl 2 [], .int .i64 0, .int .i64 0, .str [], .str [], .sl 2 [], .int .i64 0, .sl 10 [], .sl 2 [], .sl 5 [], .sl 4 [], .int .i64 0] [(0, 1, .t 7), (1, 1, .t 8)]⟩,
  ⟨some 10, none, .call F_impl_copyHouse [.t 9]⟩,
  ⟨some 6, none, .alc [.sl 4 [], .sl 2 [], .int .i64 0, .int .i64 0, .str [], .str [], .sl 2 [], .int .i64 0, .sl 10 [], .sl 2 [], .sl 5 [], .sl 4 [], .int .i64 0]⟩,
  ⟨none, none, .sto 13 (.t 6) (.t 10)⟩]
def c_impl_NewHouse_r4 : List GOp := [⟨some 4, none, .alc [.sl 4 [], .sl 2 [], .int .i64 0, .int .i64 0, .str [], .str [], .sl 2 [], .int .i64 0, .sl 10 [], .sl 2 [], .sl 5 [], .sl 4 [], .int .i64 0]⟩,
  ⟨some 5, none, .asg false (.c (.bool false))⟩]
def c_impl_NewHouse : CC := .seq (.reg none c_impl_NewHouse_r4 [0, 1, 4, 1000, 1001, 1002, 1003, 1004, 1005, 1006, 1007, 1008, 1009]) (.seq (.reg none c_impl_NewHouse_r3 [4, 6, 1000, 1001, 1002, 1003, 1004, 1005, 1006, 1007, 1008, 1009]) (.seq (.seq (.reg none c_impl_NewHouse_r2 [4, 6, 13, 1000, 1001, 1002, 1003, 1004, 1005, 1006, 1007, 1008, 1009]) (.cnd (.t 13) (.seq (.reg none c_impl_NewHouse_r1 [4, 5, 1000, 1001, 1002, 1003, 1004, 1005, 1006, 1007, 1008, 1009]) (.ret)) (.skip))) (.seq (.reg none c_impl_NewHouse_r0 [4, 5, 1000, 1001, 1002, 1003, 1004, 1005, 1006, 1007, 1008, 1009]) (.ret))))
theorem k_impl_NewHouse : chkF Tryz.prog Tryz.f17 c_impl_NewHouse [.cella 4, .tmp 5] = true := by kernel_rfl
theorem S_impl_NewHouse {args : List AV} {r : List RV} (hs : sizeXs Tryz.prog Tryz.f17.results.toList r = true) (hn : args.length ≤ 16) (h : Run Tryz.prog [.cella 4, .tmp 5] [.code c_impl_NewHouse] (argEnv args 0) r) : CallsOK Tryz.prog F_impl_NewHouse args r := callsOK Tryz.func17 k_impl_NewHouse hs hn h
theorem SH_impl_NewHouse {args : (Nat → Value) → List AV} {res : (Nat → Value) → List RV} {hin hout : List HT} (ni no : List Nat) (hs : ∀ v, sizeXs Tryz.prog Tryz.f17.results.toList (res v) = true) (hn : ∀ v, (args v).length ≤ 16 ∧ ∀ n ∈ ni, (args v).length ≤ n) (hni : ni.Nodup) (hno : no.Nodup) (h : ∀ u : Gh, RunQ Tryz.prog (fun E => ∃ u' : Gh, resP E [.cella 4, .tmp 5] = some (res u'.1) ∧ (∀ i, i < hin.length → u'.1 i = u.1 i) ∧ GetH E (fun i => decide (hin.length ≤ i)) u' no hout 0) [.code c_impl_NewHouse] (envH (fun _ => false) u ni hin 0 ++ argEnv (args u.1) 0)) : CallsH Tryz.prog F_impl_NewHouse hin hout args res := callsH_of_run ni no Tryz.func17 k_impl_NewHouse hs hn hni hno h

-- loop.example/g03003/laws.eqHouse
def c_laws_eqHouse_r0 : List GOp := [⟨some 4, none, .asg false (.c (.bool true))⟩]
def c_laws_eqHouse_r1 : List GOp := [⟨some 4, none, .asg false (.c (.bool false))⟩]
def c_laws_eqHouse_r2 : List GOp := [⟨some 47, none, .fld (.t 2) 12⟩,
  ⟨some 48, none, .ld (.t 47)⟩,
  ⟨some 49, none, .fld (.t 3) 12⟩,
  ⟨some 50, none, .ld (.t 49)⟩,
  ⟨some 51, none, .bin .neq (.t 48) (.t 50)⟩]
def c_laws_eqHouse_r3 : List GOp := [⟨some 4, none, .asg false (.c (.bool false))⟩]
def c_laws_eqHouse_r4 : List GOp := [⟨some 41, none, .fld (.t 2) 11⟩,
  ⟨some 42, none, .ld (.t 41)⟩,
  ⟨some 43, none, .fld (.t 3) 11⟩,
  ⟨some 44, none, .ld (.t 43)⟩,
  ⟨some 45, none, .call F_laws_eqEntryS [.t 42, .t 44]⟩,
  ⟨some 46, none, .not (.t 45)⟩]
def c_laws_eqHouse_r5 : List GOp := [⟨some 4, none, .asg false (.c (.bool false))⟩]
def c_laws_eqHouse_r6 : List GOp := [⟨some 35, none, .fld (.t 2) 10⟩,
  ⟨some 36, none, .ld (.t 35)⟩,
  ⟨some 37, none, .fld (.t 3) 10⟩,
  ⟨some 38, none, .ld (.t 37)⟩,
  ⟨some 39, none, .call F_laws_eqCorrectionS [.t 36, .t 38]⟩,
  ⟨some 40, none, .not (.t 39)⟩]
def c_laws_eqHouse_r7 : List GOp := [⟨some 4, none, .asg false (.c (.bool false))⟩]
def c_laws_eqHouse_r8 : List GOp := [⟨some 29, none, .fld (.t 2) 9⟩,
  ⟨some 30, none, .ld (.t 29)⟩,
  ⟨some 31, none, .fld (.t 3) 9⟩,
  ⟨some 32, none, .ld (.t 31)⟩,
  ⟨some 33, none, .call F_laws_eqUsedS [.t 30, .t 32]⟩,
  ⟨some 34, none, .not (.t 33)⟩]
def c_laws_eqHouse_r9 : List GOp := [⟨some 4, none, .asg false (.c (.bool false))⟩]
def c_laws_eqHouse_r10 : List GOp := [⟨some 23, none, .fld (.t 2) 8⟩,
  ⟨some 24, none, .ld (.t 23)⟩,
  ⟨some 25, none, .fld (.t 3) 8⟩,
  ⟨some 26, none, .ld (.t 25)⟩,
  ⟨some 27, none, .call F_laws_eqIssueS [.t 24, .t 26]⟩,
  ⟨some 28, none, .not (.t 27)⟩]
def c_laws_eqHouse_r11 : List GOp := [⟨some 4, none, .asg false (.c (.bool false))⟩]
def c_laws_eqHouse_r12 : List GOp := [⟨some 17, none, .fld (.t 2) 2⟩,
  ⟨some 18, none, .lda 6 (.t 17)⟩,
  ⟨some 19, none, .fld (.t 3) 2⟩,
  ⟨some 20, none, .lda 6 (.t 19)⟩,
  ⟨some 21, none, .call F_laws_eqDraft [.t 18, .t 20]⟩,
  ⟨some 22, none, .not (.t 21)⟩]
def c_laws_eqHouse_r13 : List GOp := [⟨some 4, none, .asg false (.c (.bool false))⟩]
def c_laws_eqHouse_r14 : List GOp := [⟨some 11, none, .fld (.t 2) 1⟩,
  ⟨some 12, none, .ld (.t 11)⟩,
  ⟨some 13, none, .fld (.t 3) 1⟩,
  ⟨some 14, none, .ld (.t 13)⟩,
  ⟨some 15, none, .call F_laws_eqMeaningS [.t 12, .t 14]⟩,
  ⟨some 16, none, .not (.t 15)⟩]
def c_laws_eqHouse_r15 : List GOp := [⟨some 4, none, .asg false (.c (.bool false))⟩]
def c_laws_eqHouse_r16 : List GOp := [⟨some 5, none, .fld (.t 2) 0⟩,
  ⟨some 6, none, .ld (.t 5)⟩,
  ⟨some 7, none, .fld (.t 3) 0⟩,
  ⟨some 8, none, .ld (.t 7)⟩,
  ⟨some 9, none, .call F_laws_eqListedS [.t 6, .t 8]⟩,
  ⟨some 10, none, .not (.t 9)⟩]
def c_laws_eqHouse_r17 : List GOp := [⟨some 2, none, .box (.t 0)⟩,
  ⟨some 3, none, .box (.t 1)⟩,
  ⟨some 4, none, .asg false (.c (.bool false))⟩]
def c_laws_eqHouse : CC := .seq (.reg none c_laws_eqHouse_r17 [2, 3]) (.seq (.seq (.reg none c_laws_eqHouse_r16 [2, 3, 10]) (.cnd (.t 10) (.seq (.reg none c_laws_eqHouse_r15 [4]) (.ret)) (.skip))) (.seq (.seq (.reg none c_laws_eqHouse_r14 [2, 3, 16]) (.cnd (.t 16) (.seq (.reg none c_laws_eqHouse_r13 [4]) (.ret)) (.skip))) (.seq (.seq (.reg none c_laws_eqHouse_r12 [2, 3, 22]) (.cnd (.t 22) (.seq (.reg none c_laws_eqHouse_r11 [4]) (.ret)) (.skip))) (.seq (.seq (.reg none c_laws_eqHouse_r10 [2, 3, 28]) (.cnd (.t 28) (.seq (.reg none c_laws_eqHouse_r9 [4]) (.ret)) (.skip))) (.seq (.seq (.reg none c_laws_eqHouse_r8 [2, 3, 34]) (.cnd (.t 34) (.seq (.reg none c_laws_eqHouse_r7 [4]) (.ret)) (.skip))) (.seq (.seq (.reg none c_laws_eqHouse_r6 [2, 3, 40]) (.cnd (.t 40) (.seq (.reg none c_laws_eqHouse_r5 [4]) (.ret)) (.skip))) (.seq (.seq (.reg none c_laws_eqHouse_r4 [2, 3, 46]) (.cnd (.t 46) (.seq (.reg none c_laws_eqHouse_r3 [4]) (.ret)) (.skip))) (.seq (.seq (.reg none c_laws_eqHouse_r2 [51]) (.cnd (.t 51) (.seq (.reg none c_laws_eqHouse_r1 [4]) (.ret)) (.skip))) (.seq (.reg none c_laws_eqHouse_r0 [4]) (.ret))))))))))
theorem k_laws_eqHouse : chkF Tryz.prog Tryz.f18 c_laws_eqHouse [.tmp 4] = true := by kernel_rfl
theorem S_laws_eqHouse {args : List AV} {r : List RV} (hs : sizeXs Tryz.prog Tryz.f18.results.toList r = true) (hn : args.length ≤ 52) (h : Run Tryz.prog [.tmp 4] [.code c_laws_eqHouse] (argEnv args 0) r) : CallsOK Tryz.prog F_laws_eqHouse args r := callsOK Tryz.func18 k_laws_eqHouse hs hn h

-- loop.example/g03003/laws.eqListedS
def c_laws_eqListedS_r0 : List GOp := [⟨some 4, none, .asg false (.c (.bool true))⟩]
def c_laws_eqListedS_r1 : List GOp := [⟨some 15, none, .mv (.t 5)⟩,
  ⟨some 16, none, .bin .add (.t 15) (.c (.int .i64 1))⟩,
  ⟨some 5, none, .asg true (.t 16)⟩]
def c_laws_eqListedS_r2 : List GOp := [⟨some 4, none, .asg false (.c (.bool false))⟩]
def c_laws_eqListedS_r3 : List GOp := [⟨some 17, none, .mv (.t 0)⟩,
  ⟨some 18, none, .mv (.t 5)⟩,
  ⟨some 19, none, .idx 4 (.t 17) (.t 18)⟩,
  ⟨some 20, none, .lda 4 (.t 19)⟩,
  ⟨some 21, none, .mv (.t 1)⟩,
  ⟨some 22, none, .mv (.t 5)⟩,
  ⟨some 23, none, .idx 4 (.t 21) (.t 22)⟩,
  ⟨some 24, none, .lda 4 (.t 23)⟩,
  ⟨some 25, none, .call F_laws_eqListed [.t 20, .t 24]⟩,
  ⟨some 26, none, .not (.t 25)⟩]
def c_laws_eqListedS_r4 : List GOp := [⟨some 11, none, .mv (.t 5)⟩,
  ⟨some 12, none, .mv (.t 0)⟩,
  ⟨some 13, none, .len (.t 12)⟩,
  ⟨some 14, none, .bin .lss (.t 11) (.t 13)⟩]
def c_laws_eqListedS_b0 : CC := .seq (.seq (.reg none c_laws_eqListedS_r4 [0, 1, 5, 14]) (.cnd (.t 14) (.skip) (.exit 0))) (.seq (.blk 1 (.seq (.reg (some (10, [[], [], [0, 1], [0, 1, 2], [], [], [4, 5], [4, 5, 6], [0, 1, 2, 3, 4, 5, 6, 7], [0, 1, 2, 3, 4, 5, 6, 7, 8]])) c_laws_eqListedS_r3 [0, 1, 5, 26]) (.cnd (.t 26) (.seq (.reg none c_laws_eqListedS_r2 [4]) (.ret)) (.skip)))) (.reg none c_laws_eqListedS_r1 [0, 1, 5]))
def c_laws_eqListedS_r5 : List GOp := [⟨some 5, none, .asg false (.c (.int .i64 0))⟩]
def c_laws_eqListedS_r6 : List GOp := [⟨some 4, none, .asg false (.c (.bool false))⟩]
def c_laws_eqListedS_r7 : List GOp := [⟨some 6, none, .mv (.t 0)⟩,
  ⟨some 7, none, .len (.t 6)⟩,
  ⟨some 8, none, .mv (.t 1)⟩,
  ⟨some 9, none, .len (.t 8)⟩,
  ⟨some 10, none, .bin .neq (.t 7) (.t 9)⟩]
def c_laws_eqListedS_r8 : List GOp := [⟨some 4, none, .asg false (.c (.bool false))⟩]
def c_laws_eqListedS : CC := .seq (.reg none c_laws_eqListedS_r8 [0, 1]) (.seq (.seq (.reg none c_laws_eqListedS_r7 [0, 1, 10]) (.cnd (.t 10) (.seq (.reg none c_laws_eqListedS_r6 [4]) (.ret)) (.skip))) (.seq (.seq (.reg none c_laws_eqListedS_r5 [0, 1, 5]) (.blk 0 (.loop c_laws_eqListedS_b0 [0, 1, 5]))) (.seq (.reg none c_laws_eqListedS_r0 [4]) (.ret))))
abbrev L_laws_eqListedS_0 (P : Program) (E : Env) (r : List RV) : Prop := Run P [.tmp 4] (.code c_laws_eqListedS_b0 :: .lp c_laws_eqListedS_b0 [0, 1, 5] :: [.blk 0, .code (.seq (.reg none c_laws_eqListedS_r0 [4]) (.ret))]) E r
theorem k_laws_eqListedS : chkF Tryz.prog Tryz.f19 c_laws_eqListedS [.tmp 4] = true := by kernel_rfl
theorem S_laws_eqListedS {args : List AV} {r : List RV} (hs : sizeXs Tryz.prog Tryz.f19.results.toList r = true) (hn : args.length ≤ 27) (h : Run Tryz.prog [.tmp 4] [.code c_laws_eqListedS] (argEnv args 0) r) : CallsOK Tryz.prog F_laws_eqListedS args r := callsOK Tryz.func19 k_laws_eqListedS hs hn h

-- loop.example/g03003/laws.eqMeaningS
def c_laws_eqMeaningS_r0 : List GOp := [⟨some 4, none, .asg false (.c (.bool true))⟩]
def c_laws_eqMeaningS_r1 : List GOp := [⟨some 15, none, .mv (.t 5)⟩,
  ⟨some 16, none, .bin .add (.t 15) (.c (.int .i64 1))⟩,
  ⟨some 5, none, .asg true (.t 16)⟩]
def c_laws_eqMeaningS_r2 : List GOp := [⟨some 4, none, .asg false (.c (.bool false))⟩]
def c_laws_eqMeaningS_r3 : List GOp := [⟨some 17, none, .mv (.t 0)⟩,
  ⟨some 18, none, .mv (.t 5)⟩,
  ⟨some 19, none, .idx 2 (.t 17) (.t 18)⟩,
  ⟨some 20, none, .lda 2 (.t 19)⟩,
  ⟨some 21, none, .mv (.t 1)⟩,
  ⟨some 22, none, .mv (.t 5)⟩,
  ⟨some 23, none, .idx 2 (.t 21) (.t 22)⟩,
  ⟨some 24, none, .lda 2 (.t 23)⟩,
  ⟨some 25, none, .call F_laws_eqMeaning [.t 20, .t 24]⟩,
  ⟨some 26, none, .not (.t 25)⟩]
def c_laws_eqMeaningS_r4 : List GOp := [⟨some 11, none, .mv (.t 5)⟩,
  ⟨some 12, none, .mv (.t 0)⟩,
  ⟨some 13, none, .len (.t 12)⟩,
  ⟨some 14, none, .bin .lss (.t 11) (.t 13)⟩]
def c_laws_eqMeaningS_b0 : CC := .seq (.seq (.reg none c_laws_eqMeaningS_r4 [0, 1, 5, 14]) (.cnd (.t 14) (.skip) (.exit 0))) (.seq (.blk 1 (.seq (.reg (some (10, [[], [], [0, 1], [0, 1, 2], [], [], [4, 5], [4, 5, 6], [0, 1, 2, 3, 4, 5, 6, 7], [0, 1, 2, 3, 4, 5, 6, 7, 8]])) c_laws_eqMeaningS_r3 [0, 1, 5, 26]) (.cnd (.t 26) (.seq (.reg none c_laws_eqMeaningS_r2 [4]) (.ret)) (.skip)))) (.reg none c_laws_eqMeaningS_r1 [0, 1, 5]))
def c_laws_eqMeaningS_r5 : List GOp := [⟨some 5, none, .asg false (.c (.int .i64 0))⟩]
def c_laws_eqMeaningS_r6 : List GOp := [⟨some 4, none, .asg false (.c (.bool false))⟩]
def c_laws_eqMeaningS_r7 : List GOp := [⟨some 6, none, .mv (.t 0)⟩,
  ⟨some 7, none, .len (.t 6)⟩,
  ⟨some 8, none, .mv (.t 1)⟩,
  ⟨some 9, none, .len (.t 8)⟩,
  ⟨some 10, none, .bin .neq (.t 7) (.t 9)⟩]
def c_laws_eqMeaningS_r8 : List GOp := [⟨some 4, none, .asg false (.c (.bool false))⟩]
def c_laws_eqMeaningS : CC := .seq (.reg none c_laws_eqMeaningS_r8 [0, 1]) (.seq (.seq (.reg none c_laws_eqMeaningS_r7 [0, 1, 10]) (.cnd (.t 10) (.seq (.reg none c_laws_eqMeaningS_r6 [4]) (.ret)) (.skip))) (.seq (.seq (.reg none c_laws_eqMeaningS_r5 [0, 1, 5]) (.blk 0 (.loop c_laws_eqMeaningS_b0 [0, 1, 5]))) (.seq (.reg none c_laws_eqMeaningS_r0 [4]) (.ret))))
abbrev L_laws_eqMeaningS_0 (P : Program) (E : Env) (r : List RV) : Prop := Run P [.tmp 4] (.code c_laws_eqMeaningS_b0 :: .lp c_laws_eqMeaningS_b0 [0, 1, 5] :: [.blk 0, .code (.seq (.reg none c_laws_eqMeaningS_r0 [4]) (.ret))]) E r
theorem k_laws_eqMeaningS : chkF Tryz.prog Tryz.f20 c_laws_eqMeaningS [.tmp 4] = true := by kernel_rfl
theorem S_laws_eqMeaningS {args : List AV} {r : List RV} (hs : sizeXs Tryz.prog Tryz.f20.results.toList r = true) (hn : args.length ≤ 27) (h : Run Tryz.prog [.tmp 4] [.code c_laws_eqMeaningS] (argEnv args 0) r) : CallsOK Tryz.prog F_laws_eqMeaningS args r := callsOK Tryz.func20 k_laws_eqMeaningS hs hn h

-- loop.example/g03003/laws.markListedS
def c_laws_markListedS_r0 : List GOp := [⟨some 41, none, .mv (.t 1)⟩,
  ⟨some 4, none, .asg true (.t 41)⟩]
def c_laws_markListedS_r1 : List GOp := [⟨some 10, none, .mv (.t 5)⟩,
  ⟨some 11, none, .bin .add (.t 10) (.c (.int .i64 1))⟩,
  ⟨some 5, none, .asg true (.t 11)⟩]
def c_laws_markListedS_r2 : List GOp := [⟨some 39, none, .mv (.t 1)⟩,
  ⟨some 40, none, .bin .add (.t 39) (.c (.int .i64 1))⟩,
  ⟨some 1, none, .asg true (.t 40)⟩]
def c_laws_markListedS_r3 : List GOp := [⟨some 34, none, .mv (.t 0)⟩,
  ⟨some 35, none, .mv (.t 5)⟩,
  ⟨some 36, none, .mv (.t 1)⟩,
  ⟨some 37, none, .idx 4 (.t 34) (.t 35)⟩,
  ⟨some 38, none, .fld (.t 37) 3⟩,
  ⟨none, none, .sto 1 (.t 38) (.t 36)⟩]
def c_laws_markListedS_r4 : List GOp := [⟨some 32, none, .mv (.t 1)⟩,
  ⟨some 33, none, .bin .add (.t 32) (.c (.int .i64 1))⟩,
  ⟨some 1, none, .asg true (.t 33)⟩]
def c_laws_markListedS_r5 : List GOp := [⟨some 27, none, .mv (.t 0)⟩,
  ⟨some 28, none, .mv (.t 5)⟩,
  ⟨some 29, none, .mv (.t 1)⟩,
  ⟨some 30, none, .idx 4 (.t 27) (.t 28)⟩,
  ⟨some 31, none, .fld (.t 30) 2⟩,
  ⟨none, none, .sto 1 (.t 31) (.t 29)⟩]
def c_laws_markListedS_r6 : List GOp := [⟨some 25, none, .mv (.t 1)⟩,
  ⟨some 26, none, .bin .add (.t 25) (.c (.int .i64 1))⟩,
  ⟨some 1, none, .asg true (.t 26)⟩]
def c_laws_markListedS_r7 : List GOp := [⟨some 20, none, .mv (.t 0)⟩,
  ⟨some 21, none, .mv (.t 5)⟩,
  ⟨some 22, none, .mv (.t 1)⟩,
  ⟨some 23, none, .idx 4 (.t 20) (.t 21)⟩,
  ⟨some 24, none, .fld (.t 23) 1⟩,
  ⟨none, none, .sto 1 (.t 24) (.t 22)⟩]
def c_laws_markListedS_r8 : List GOp := [⟨some 18, none, .mv (.t 1)⟩,
  ⟨some 19, none, .bin .add (.t 18) (.c (.int .i64 1))⟩,
  ⟨some 1, none, .asg true (.t 19)⟩]
def c_laws_markListedS_r9 : List GOp := [⟨some 12, none, .mv (.t 0)⟩,
  ⟨some 13, none, .mv (.t 5)⟩,
  ⟨some 14, none, .mv (.t 1)⟩,
  ⟨some 15, none, .call F_laws_markText [.t 14]⟩,
  ⟨some 16, none, .idx 4 (.t 12) (.t 13)⟩,
  ⟨some 17, none, .fld (.t 16) 0⟩,
  ⟨none, none, .sto 1 (.t 17) (.t 15)⟩]
def c_laws_markListedS_r10 : List GOp := [⟨some 6, none, .mv (.t 5)⟩,
  ⟨some 7, none, .mv (.t 0)⟩,
  ⟨some 8, none, .len (.t 7)⟩,
  ⟨some 9, none, .bin .lss (.t 6) (.t 8)⟩]
def c_laws_markListedS_b0 : CC := .seq (.seq (.reg none c_laws_markListedS_r10 [0, 1, 5, 9, 1000, 1001, 1002, 1003, 1004, 1005, 1006, 1007, 1008, 1009]) (.cnd (.t 9) (.skip) (.exit 0))) (.seq (.blk 1 (.seq (.reg none c_laws_markListedS_r9 [0, 1, 5, 1000, 1001, 1002, 1003, 1004, 1005, 1006, 1007, 1008, 1009]) (.seq (.reg none c_laws_markListedS_r8 [0, 1, 5, 1000, 1001, 1002, 1003, 1004, 1005, 1006, 1007, 1008, 1009]) (.seq (.reg none c_laws_markListedS_r7 [0, 1, 5, 1000, 1001, 1002, 1003, 1004, 1005, 1006, 1007, 1008, 1009]) (.seq (.reg none c_laws_markListedS_r6 [0, 1, 5, 1000, 1001, 1002, 1003, 1004, 1005, 1006, 1007, 1008, 1009]) (.seq (.reg none c_laws_markListedS_r5 [0, 1, 5, 1000, 1001, 1002, 1003, 1004, 1005, 1006, 1007, 1008, 1009]) (.seq (.reg none c_laws_markListedS_r4 [0, 1, 5, 1000, 1001, 1002, 1003, 1004, 1005, 1006, 1007, 1008, 1009]) (.seq (.reg none c_laws_markListedS_r3 [0, 1, 5, 1000, 1001, 1002, 1003, 1004, 1005, 1006, 1007, 1008, 1009]) (.reg none c_laws_markListedS_r2 [0, 1, 5, 1000, 1001, 1002, 1003, 1004, 1005, 1006, 1007, 1008, 1009]))))))))) (.reg none c_laws_markListedS_r1 [0, 1, 5, 1000, 1001, 1002, 1003, 1004, 1005, 1006, 1007, 1008, 1009]))
def c_laws_markListedS_r11 : List GOp := [⟨some 5, none, .asg false (.c (.int .i64 0))⟩]
def c_laws_markListedS_r12 : List GOp := [⟨some 4, none, .asg false (.c (.int .i64 0))⟩]
def c_laws_markListedS : CC := .seq (.reg none c_laws_markListedS_r12 [0, 1, 1000, 1001, 1002, 1003, 1004, 1005, 1006, 1007, 1008, 1009]) (.seq (.seq (.reg none c_laws_markListedS_r11 [0, 1, 5, 1000, 1001, 1002, 1003, 1004, 1005, 1006, 1007, 1008, 1009]) (.blk 0 (.loop c_laws_markListedS_b0 [0, 1, 5, 1000, 1001, 1002, 1003, 1004, 1005, 1006, 1007, 1008, 1009]))) (.seq (.reg none c_laws_markListedS_r0 [4, 1000, 1001, 1002, 1003, 1004, 1005, 1006, 1007, 1008, 1009]) (.ret)))
abbrev L_laws_markListedS_0 (P : Program) (Q : Env → Prop) (E : Env) : Prop := RunQ P Q (.code c_laws_markListedS_b0 :: .lp c_laws_markListedS_b0 [0, 1, 5, 1000, 1001, 1002, 1003, 1004, 1005, 1006, 1007, 1008, 1009] :: [.blk 0, .code (.seq (.reg none c_laws_markListedS_r0 [4, 1000, 1001, 1002, 1003, 1004, 1005, 1006, 1007, 1008, 1009]) (.ret))]) E
theorem k_laws_markListedS : chkF Tryz.prog Tryz.f21 c_laws_markListedS [.tmp 4] = true := by kernel_rfl
theorem S_laws_markListedS {args : List AV} {r : List RV} (hs : sizeXs Tryz.prog Tryz.f21.results.toList r = true) (hn : args.length ≤ 42) (h : Run Tryz.prog [.tmp 4] [.code c_laws_markListedS] (argEnv args 0) r) : CallsOK Tryz.prog F_laws_markListedS args r := callsOK Tryz.func21 k_laws_markListedS hs hn h
theorem SH_laws_markListedS {args : (Nat → Value) → List AV} {res : (Nat → Value) → List RV} {hin hout : List HT} (ni no : List Nat) (hs : ∀ v, sizeXs Tryz.prog Tryz.f21.results.toList (res v) = true) (hn : ∀ v, (args v).length ≤ 42 ∧ ∀ n ∈ ni, (args v).length ≤ n) (hni : ni.Nodup) (hno : no.Nodup) (h : ∀ u : Gh, RunQ Tryz.prog (fun E => ∃ u' : Gh, resP E [.tmp 4] = some (res u'.1) ∧ (∀ i, i < hin.length → u'.1 i = u.1 i) ∧ GetH E (fun i => decide (hin.length ≤ i)) u' no hout 0) [.code c_laws_markListedS] (envH (fun _ => false) u ni hin 0 ++ argEnv (args u.1) 0)) : CallsH Tryz.prog F_laws_markListedS hin hout args res := callsH_of_run ni no Tryz.func21 k_laws_markListedS hs hn hni hno h

-- loop.example/g03003/laws.markMeaningS
def c_laws_markMeaningS_r0 : List GOp := [⟨some 27, none, .mv (.t 1)⟩,
  ⟨some 4, none, .asg true (.t 27)⟩]
def c_laws_markMeaningS_r1 : List GOp := [⟨some 10, none, .mv (.t 5)⟩,
  ⟨some 11, none, .bin .add (.t 10) (.c (.int .i64 1))⟩,
  ⟨some 5, none, .asg true (.t 11)⟩]
def c_laws_markMeaningS_r2 : List GOp := [⟨some 25, none, .mv (.t 1)⟩,
  ⟨some 26, none, .bin .add (.t 25) (.c (.int .i64 1))⟩,
  ⟨some 1, none, .asg true (.t 26)⟩]
def c_laws_markMeaningS_r3 : List GOp := [⟨some 20, none, .mv (.t 0)⟩,
  ⟨some 21, none, .mv (.t 5)⟩,
  ⟨some 22, none, .mv (.t 1)⟩,
  ⟨some 23, none, .idx 2 (.t 20) (.t 21)⟩,
  ⟨some 24, none, .fld (.t 23) 1⟩,
  ⟨none, none, .sto 1 (.t 24) (.t 22)⟩]
def c_laws_markMeaningS_r4 : List GOp := [⟨some 18, none, .mv (.t 1)⟩,
  ⟨some 19, none, .bin .add (.t 18) (.c (.int .i64 1))⟩,
  ⟨some 1, none, .asg true (.t 19)⟩]
def c_laws_markMeaningS_r5 : List GOp := [⟨some 12, none, .mv (.t 0)⟩,
  ⟨some 13, none, .mv (.t 5)⟩,
  ⟨some 14, none, .mv (.t 1)⟩,
  ⟨some 15, none, .call F_laws_markText [.t 14]⟩,
  ⟨some 16, none, .idx 2 (.t 12) (.t 13)⟩,
  ⟨some 17, none, .fld (.t 16) 0⟩,
  ⟨none, none, .sto 1 (.t 17) (.t 15)⟩]
def c_laws_markMeaningS_r6 : List GOp := [⟨some 6, none, .mv (.t 5)⟩,
  ⟨some 7, none, .mv (.t 0)⟩,
  ⟨some 8, none, .len (.t 7)⟩,
  ⟨some 9, none, .bin .lss (.t 6) (.t 8)⟩]
def c_laws_markMeaningS_b0 : CC := .seq (.seq (.reg none c_laws_markMeaningS_r6 [0, 1, 5, 9, 1000, 1001, 1002, 1003, 1004, 1005, 1006, 1007, 1008, 1009]) (.cnd (.t 9) (.skip) (.exit 0))) (.seq (.blk 1 (.seq (.reg none c_laws_markMeaningS_r5 [0, 1, 5, 1000, 1001, 1002, 1003, 1004, 1005, 1006, 1007, 1008, 1009]) (.seq (.reg none c_laws_markMeaningS_r4 [0, 1, 5, 1000, 1001, 1002, 1003, 1004, 1005, 1006, 1007, 1008, 1009]) (.seq (.reg none c_laws_markMeaningS_r3 [0, 1, 5, 1000, 1001, 1002, 1003, 1004, 1005, 1006, 1007, 1008, 1009]) (.reg none c_laws_markMeaningS_r2 [0, 1, 5, 1000, 1001, 1002, 1003, 1004, 1005, 1006, 1007, 1008, 1009]))))) (.reg none c_laws_markMeaningS_r1 [0, 1, 5, 1000, 1001, 1002, 1003, 1004, 1005, 1006, 1007, 1008, 1009]))
def c_laws_markMeaningS_r7 : List GOp := [⟨some 5, none, .asg false (.c (.int .i64 0))⟩]
def c_laws_markMeaningS_r8 : List GOp := [⟨some 4, none, .asg false (.c (.int .i64 0))⟩]
def c_laws_markMeaningS : CC := .seq (.reg none c_laws_markMeaningS_r8 [0, 1, 1000, 1001, 1002, 1003, 1004, 1005, 1006, 1007, 1008, 1009]) (.seq (.seq (.reg none c_laws_markMeaningS_r7 [0, 1, 5, 1000, 1001, 1002, 1003, 1004, 1005, 1006, 1007, 1008, 1009]) (.blk 0 (.loop c_laws_markMeaningS_b0 [0, 1, 5, 1000, 1001, 1002, 1003, 1004, 1005, 1006, 1007, 1008, 1009]))) (.seq (.reg none c_laws_markMeaningS_r0 [4, 1000, 1001, 1002, 1003, 1004, 1005, 1006, 1007, 1008, 1009]) (.ret)))
abbrev L_laws_markMeaningS_0 (P : Program) (Q : Env → Prop) (E : Env) : Prop := RunQ P Q (.code c_laws_markMeaningS_b0 :: .lp c_laws_markMeaningS_b0 [0, 1, 5, 1000, 1001, 1002, 1003, 1004, 1005, 1006, 1007, 1008, 1009] :: [.blk 0, .code (.seq (.reg none c_laws_markMeaningS_r0 [4, 1000, 1001, 1002, 1003, 1004, 1005, 1006, 1007, 1008, 1009]) (.ret))]) E
theorem k_laws_markMeaningS : chkF Tryz.prog Tryz.f22 c_laws_markMeaningS [.tmp 4] = true := by kernel_rfl
theorem S_laws_markMeaningS {args : List AV} {r : List RV} (hs : sizeXs Tryz.prog Tryz.f22.results.toList r = true) (hn : args.length ≤ 28) (h : Run Tryz.prog [.tmp 4] [.code c_laws_markMeaningS] (argEnv args 0) r) : CallsOK Tryz.prog F_laws_markMeaningS args r := callsOK Tryz.func22 k_laws_markMeaningS hs hn h
theorem SH_laws_markMeaningS {args : (Nat → Value) → List AV} {res : (Nat → Value) → List RV} {hin hout : List HT} (ni no : List Nat) (hs : ∀ v, sizeXs Tryz.prog Tryz.f22.results.toList (res v) = true) (hn : ∀ v, (args v).length ≤ 28 ∧ ∀ n ∈ ni, (args v).length ≤ n) (hni : ni.Nodup) (hno : no.Nodup) (h : ∀ u : Gh, RunQ Tryz.prog (fun E => ∃ u' : Gh, resP E [.tmp 4] = some (res u'.1) ∧ (∀ i, i < hin.length → u'.1 i = u.1 i) ∧ GetH E (fun i => decide (hin.length ≤ i)) u' no hout 0) [.code c_laws_markMeaningS] (envH (fun _ => false) u ni hin 0 ++ argEnv (args u.1) 0)) : CallsH Tryz.prog F_laws_markMeaningS hin hout args res := callsH_of_run ni no Tryz.func22 k_laws_markMeaningS hs hn hni hno h

-- loop.example/g03003/laws.markHouse
def c_laws_markHouse_r0 : List GOp := [⟨some 33, none, .mv (.t 1)⟩,
  ⟨some 4, none, .asg true (.t 33)⟩]
def c_laws_markHouse_r1 : List GOp := [⟨some 29, none, .fld (.t 2) 11⟩,
  ⟨some 30, none, .ld (.t 29)⟩,
  ⟨some 31, none, .mv (.t 1)⟩,
  ⟨some 32, none, .call F_laws_markEntryS [.t 30, .t 31]⟩,
  ⟨some 1, none, .asg true (.t 32)⟩]
def c_laws_markHouse_r2 : List GOp := [⟨some 25, none, .fld (.t 2) 10⟩,
  ⟨some 26, none, .ld (.t 25)⟩,
  ⟨some 27, none, .mv (.t 1)⟩,
  ⟨some 28, none, .call F_laws_markCorrectionS [.t 26, .t 27]⟩,
  ⟨some 1, none, .asg true (.t 28)⟩]
def c_laws_markHouse_r3 : List GOp := [⟨some 21, none, .fld (.t 2) 9⟩,
  ⟨some 22, none, .ld (.t 21)⟩,
  ⟨some 23, none, .mv (.t 1)⟩,
  ⟨some 24, none, .call F_laws_markUsedS [.t 22, .t 23]⟩,
  ⟨some 1, none, .asg true (.t 24)⟩]
def c_laws_markHouse_r4 : List GOp := [⟨some 17, none, .fld (.t 2) 8⟩,
  ⟨some 18, none, .ld (.t 17)⟩,
  ⟨some 19, none, .mv (.t 1)⟩,
  ⟨some 20, none, .call F_laws_markIssueS [.t 18, .t 19]⟩,
  ⟨some 1, none, .asg true (.t 20)⟩]
def c_laws_markHouse_r5 : List GOp := [⟨some 13, none, .fld (.t 2) 2⟩,
  ⟨some 14, none, .lda 6 (.t 13)⟩,
  ⟨some 15, none, .mv (.t 1)⟩,
  ⟨some 16, none, .call F_laws_markDraft [.t 14, .t 15]⟩,
  ⟨some 1, none, .asg true (.t 16)⟩]
def c_laws_markHouse_r6 : List GOp := [⟨some 9, none, .fld (.t 2) 1⟩,
  ⟨some 10, none, .ld (.t 9)⟩,
  ⟨some 11, none, .mv (.t 1)⟩,
  ⟨some 12, none, .call F_laws_markMeaningS [.t 10, .t 11]⟩,
  ⟨some 1, none, .asg true (.t 12)⟩]
def c_laws_markHouse_r7 : List GOp := [⟨some 5, none, .fld (.t 2) 0⟩,
  ⟨some 6, none, .ld (.t 5)⟩,
  ⟨some 7, none, .mv (.t 1)⟩,
  ⟨some 8, none, .call F_laws_markListedS [.t 6, .t 7]⟩,
  ⟨some 1, none, .asg true (.t 8)⟩]
def c_laws_markHouse_r8 : List GOp := [⟨some 2, none, .box (.t 0)⟩,
  ⟨some 4, none, .asg false (.c (.int .i64 0))⟩]
def c_laws_markHouse : CC := .seq (.reg none c_laws_markHouse_r8 [1, 2, 1000, 1001, 1002, 1003, 1004, 1005, 1006, 1007, 1008, 1009]) (.seq (.reg none c_laws_markHouse_r7 [1, 2, 1000, 1001, 1002, 1003, 1004, 1005, 1006, 1007, 1008, 1009]) (.seq (.reg none c_laws_markHouse_r6 [1, 2, 1000, 1001, 1002, 1003, 1004, 1005, 1006, 1007, 1008, 1009]) (.seq (.reg none c_laws_markHouse_r5 [1, 2, 1000, 1001, 1002, 1003, 1004, 1005, 1006, 1007, 1008, 1009]) (.seq (.reg none c_laws_markHouse_r4 [1, 2, 1000, 1001, 1002, 1003, 1004, 1005, 1006, 1007, 1008, 1009]) (.seq (.reg none c_laws_markHouse_r3 [1, 2, 1000, 1001, 1002, 1003, 1004, 1005, 1006, 1007, 1008, 1009]) (.seq (.reg none c_laws_markHouse_r2 [1, 2, 1000, 1001, 1002, 1003, 1004, 1005, 1006, 1007, 1008, 1009]) (.seq (.reg none c_laws_markHouse_r1 [1, 1000, 1001, 1002, 1003, 1004, 1005, 1006, 1007, 1008, 1009]) (.seq (.reg none c_laws_markHouse_r0 [4, 1000, 1001, 1002, 1003, 1004, 1005, 1006, 1007, 1008, 1009]) (.ret)))))))))
theorem k_laws_markHouse : chkF Tryz.prog Tryz.f23 c_laws_markHouse [.tmp 4] = true := by kernel_rfl
theorem S_laws_markHouse {args : List AV} {r : List RV} (hs : sizeXs Tryz.prog Tryz.f23.results.toList r = true) (hn : args.length ≤ 34) (h : Run Tryz.prog [.tmp 4] [.code c_laws_markHouse] (argEnv args 0) r) : CallsOK Tryz.prog F_laws_markHouse args r := callsOK Tryz.func23 k_laws_markHouse hs hn h
theorem SH_laws_markHouse {args : (Nat → Value) → List AV} {res : (Nat → Value) → List RV} {hin hout : List HT} (ni no : List Nat) (hs : ∀ v, sizeXs Tryz.prog Tryz.f23.results.toList (res v) = true) (hn : ∀ v, (args v).length ≤ 34 ∧ ∀ n ∈ ni, (args v).length ≤ n) (hni : ni.Nodup) (hno : no.Nodup) (h : ∀ u : Gh, RunQ Tryz.prog (fun E => ∃ u' : Gh, resP E [.tmp 4] = some (res u'.1) ∧ (∀ i, i < hin.length → u'.1 i = u.1 i) ∧ GetH E (fun i => decide (hin.length ≤ i)) u' no hout 0) [.code c_laws_markHouse] (envH (fun _ => false) u ni hin 0 ++ argEnv (args u.1) 0)) : CallsH Tryz.prog F_laws_markHouse hin hout args res := callsH_of_run ni no Tryz.func23 k_laws_markHouse hs hn hni hno h

-- loop.example/g03003/laws.heldHouse
def c_laws_heldHouse_r0 : List GOp := [⟨some 47, none, .mv (.t 1)⟩,
  ⟨some 4, none, .asg true (.t 47)⟩]
def c_laws_heldHouse_r1 : List GOp := [⟨some 4, none, .asg false (.c (.int .i64 (-1)))⟩]
def c_laws_heldHouse_r2 : List GOp := [⟨some 45, none, .mv (.t 1)⟩,
  ⟨some 46, none, .bin .lss (.t 45) (.c (.int .i64 0))⟩]
def c_laws_heldHouse_r3 : List GOp := [⟨some 41, none, .fld (.t 2) 11⟩,
  ⟨some 42, none, .ld (.t 41)⟩,
  ⟨some 43, none, .mv (.t 1)⟩,
  ⟨some 44, none, .call F_laws_heldEntryS [.t 42, .t 43]⟩,
  ⟨some 1, none, .asg true (.t 44)⟩]
def c_laws_heldHouse_r4 : List GOp := [⟨some 4, none, .asg false (.c (.int .i64 (-1)))⟩]
def c_laws_heldHouse_r5 : List GOp := [⟨some 39, none, .mv (.t 1)⟩,
  ⟨some 40, none, .bin .lss (.t 39) (.c (.int .i64 0))⟩]
def c_laws_heldHouse_r6 : List GOp := [⟨some 35, none, .fld (.t 2) 10⟩,
  ⟨some 36, none, .ld (.t 35)⟩,
  ⟨some 37, none, .mv (.t 1)⟩,
  ⟨some 38, none, .call F_laws_heldCorrectionS [.t 36, .t 37]⟩,
  ⟨some 1, none, .asg true (.t 38)⟩]
def c_laws_heldHouse_r7 : List GOp := [⟨some 4, none, .asg false (.c (.int .i64 (-1)))⟩]
def c_laws_heldHouse_r8 : List GOp := [⟨some 33, none, .mv (.t 1)⟩,
  ⟨some 34, none, .bin .lss (.t 33) (.c (.int .i64 0))⟩]
def c_laws_heldHouse_r9 : List GOp := [⟨some 29, none, .fld (.t 2) 9⟩,
  ⟨some 30, none, .ld (.t 29)⟩,
  ⟨some 31, none, .mv (.t 1)⟩,
  ⟨some 32, none, .call F_laws_heldUsedS [.t 30, .t 31]⟩,
  ⟨some 1, none, .asg true (.t 32)⟩]
def c_laws_heldHouse_r10 : List GOp := [⟨some 4, none, .asg false (.c (.int .i64 (-1)))⟩]
def c_laws_heldHouse_r11 : List GOp := [⟨some 27, none, .mv (.t 1)⟩,
  ⟨some 28, none, .bin .lss (.t 27) (.c (.int .i64 0))⟩]
def c_laws_heldHouse_r12 : List GOp := [⟨some 23, none, .fld (.t 2) 8⟩,
  ⟨some 24, none, .ld (.t 23)⟩,
  ⟨some 25, none, .mv (.t 1)⟩,
  ⟨some 26, none, .call F_laws_heldIssueS [.t 24, .t 25]⟩,
  ⟨some 1, none, .asg true (.t 26)⟩]
def c_laws_heldHouse_r13 : List GOp := [⟨some 4, none, .asg false (.c (.int .i64 (-1)))⟩]
def c_laws_heldHouse_r14 : List GOp := [⟨some 21, none, .mv (.t 1)⟩,
  ⟨some 22, none, .bin .lss (.t 21) (.c (.int .i64 0))⟩]
def c_laws_heldHouse_r15 : List GOp := [⟨some 17, none, .fld (.t 2) 2⟩,
  ⟨some 18, none, .lda 6 (.t 17)⟩,
  ⟨some 19, none, .mv (.t 1)⟩,
  ⟨some 20, none, .call F_laws_heldDraft [.t 18, .t 19]⟩,
  ⟨some 1, none, .asg true (.t 20)⟩]
def c_laws_heldHouse_r16 : List GOp := [⟨some 4, none, .asg false (.c (.int .i64 (-1)))⟩]
def c_laws_heldHouse_r17 : List GOp := [⟨some 15, none, .mv (.t 1)⟩,
  ⟨some 16, none, .bin .lss (.t 15) (.c (.int .i64 0))⟩]
def c_laws_heldHouse_r18 : List GOp := [⟨some 11, none, .fld (.t 2) 1⟩,
  ⟨some 12, none, .ld (.t 11)⟩,
  ⟨some 13, none, .mv (.t 1)⟩,
  ⟨some 14, none, .call F_laws_heldMeaningS [.t 12, .t 13]⟩,
  ⟨some 1, none, .asg true (.t 14)⟩]
def c_laws_heldHouse_r19 : List GOp := [⟨some 4, none, .asg false (.c (.int .i64 (-1)))⟩]
def c_laws_heldHouse_r20 : List GOp := [⟨some 9, none, .mv (.t 1)⟩,
  ⟨some 10, none, .bin .lss (.t 9) (.c (.int .i64 0))⟩]
def c_laws_heldHouse_r21 : List GOp := [⟨some 5, none, .fld (.t 2) 0⟩,
  ⟨some 6, none, .ld (.t 5)⟩,
  ⟨some 7, none, .mv (.t 1)⟩,
  ⟨some 8, none, .call F_laws_heldListedS [.t 6, .t 7]⟩,
  ⟨some 1, none, .asg true (.t 8)⟩]
def c_laws_heldHouse_r22 : List GOp := [⟨some 2, none, .box (.t 0)⟩,
  ⟨some 4, none, .asg false (.c (.int .i64 0))⟩]
def c_laws_heldHouse : CC := .seq (.reg none c_laws_heldHouse_r22 [1, 2]) (.seq (.reg none c_laws_heldHouse_r21 [1, 2]) (.seq (.seq (.reg none c_laws_heldHouse_r20 [1, 2, 10]) (.cnd (.t 10) (.seq (.reg none c_laws_heldHouse_r19 [4]) (.ret)) (.skip))) (.seq (.reg none c_laws_heldHouse_r18 [1, 2]) (.seq (.seq (.reg none c_laws_heldHouse_r17 [1, 2, 16]) (.cnd (.t 16) (.seq (.reg none c_laws_heldHouse_r16 [4]) (.ret)) (.skip))) (.seq (.reg none c_laws_heldHouse_r15 [1, 2]) (.seq (.seq (.reg none c_laws_heldHouse_r14 [1, 2, 22]) (.cnd (.t 22) (.seq (.reg none c_laws_heldHouse_r13 [4]) (.ret)) (.skip))) (.seq (.reg none c_laws_heldHouse_r12 [1, 2]) (.seq (.seq (.reg none c_laws_heldHouse_r11 [1, 2, 28]) (.cnd (.t 28) (.seq (.reg none c_laws_heldHouse_r10 [4]) (.ret)) (.skip))) (.seq (.reg none c_laws_heldHouse_r9 [1, 2]) (.seq (.seq (.reg none c_laws_heldHouse_r8 [1, 2, 34]) (.cnd (.t 34) (.seq (.reg none c_laws_heldHouse_r7 [4]) (.ret)) (.skip))) (.seq (.reg none c_laws_heldHouse_r6 [1, 2]) (.seq (.seq (.reg none c_laws_heldHouse_r5 [1, 2, 40]) (.cnd (.t 40) (.seq (.reg none c_laws_heldHouse_r4 [4]) (.ret)) (.skip))) (.seq (.reg none c_laws_heldHouse_r3 [1]) (.seq (.seq (.reg none c_laws_heldHouse_r2 [1, 46]) (.cnd (.t 46) (.seq (.reg none c_laws_heldHouse_r1 [4]) (.ret)) (.skip))) (.seq (.reg none c_laws_heldHouse_r0 [4]) (.ret))))))))))))))))
theorem k_laws_heldHouse : chkF Tryz.prog Tryz.f24 c_laws_heldHouse [.tmp 4] = true := by kernel_rfl
theorem S_laws_heldHouse {args : List AV} {r : List RV} (hs : sizeXs Tryz.prog Tryz.f24.results.toList r = true) (hn : args.length ≤ 48) (h : Run Tryz.prog [.tmp 4] [.code c_laws_heldHouse] (argEnv args 0) r) : CallsOK Tryz.prog F_laws_heldHouse args r := callsOK Tryz.func24 k_laws_heldHouse hs hn h

-- loop.example/g03003/laws.eqClue
def c_laws_eqClue_r0 : List GOp := [⟨some 4, none, .asg false (.c (.bool true))⟩]
def c_laws_eqClue_r1 : List GOp := [⟨some 4, none, .asg false (.c (.bool false))⟩]
def c_laws_eqClue_r2 : List GOp := [⟨some 10, none, .fld (.t 2) 1⟩,
  ⟨some 11, none, .ld (.t 10)⟩,
  ⟨some 12, none, .fld (.t 3) 1⟩,
  ⟨some 13, none, .ld (.t 12)⟩,
  ⟨some 14, none, .call F_laws_eqStepS [.t 11, .t 13]⟩,
  ⟨some 15, none, .not (.t 14)⟩]
def c_laws_eqClue_r3 : List GOp := [⟨some 4, none, .asg false (.c (.bool false))⟩]
def c_laws_eqClue_r4 : List GOp := [⟨some 5, none, .fld (.t 2) 0⟩,
  ⟨some 6, none, .ld (.t 5)⟩,
  ⟨some 7, none, .fld (.t 3) 0⟩,
  ⟨some 8, none, .ld (.t 7)⟩,
  ⟨some 9, none, .bin .neq (.t 6) (.t 8)⟩]
def c_laws_eqClue_r5 : List GOp := [⟨some 2, none, .box (.t 0)⟩,
  ⟨some 3, none, .box (.t 1)⟩,
  ⟨some 4, none, .asg false (.c (.bool false))⟩]
def c_laws_eqClue : CC := .seq (.reg none c_laws_eqClue_r5 [2, 3]) (.seq (.seq (.reg none c_laws_eqClue_r4 [2, 3, 9]) (.cnd (.t 9) (.seq (.reg none c_laws_eqClue_r3 [4]) (.ret)) (.skip))) (.seq (.seq (.reg none c_laws_eqClue_r2 [15]) (.cnd (.t 15) (.seq (.reg none c_laws_eqClue_r1 [4]) (.ret)) (.skip))) (.seq (.reg none c_laws_eqClue_r0 [4]) (.ret))))
theorem k_laws_eqClue : chkF Tryz.prog Tryz.f31 c_laws_eqClue [.tmp 4] = true := by kernel_rfl
theorem S_laws_eqClue {args : List AV} {r : List RV} (hs : sizeXs Tryz.prog Tryz.f31.results.toList r = true) (hn : args.length ≤ 16) (h : Run Tryz.prog [.tmp 4] [.code c_laws_eqClue] (argEnv args 0) r) : CallsOK Tryz.prog F_laws_eqClue args r := callsOK Tryz.func31 k_laws_eqClue hs hn h

-- loop.example/g03003/laws.szListed
def c_laws_szListed_r0 : List GOp := [⟨some 12, none, .mv (.t 1)⟩,
  ⟨some 4, none, .asg true (.t 12)⟩]
def c_laws_szListed_r1 : List GOp := [⟨some 4, none, .asg false (.c (.int .i64 (-1)))⟩]
def c_laws_szListed_r2 : List GOp := [⟨some 10, none, .mv (.t 1)⟩,
  ⟨some 11, none, .bin .lss (.t 10) (.c (.int .i64 0))⟩]
def c_laws_szListed_r3 : List GOp := [⟨some 5, none, .mv (.t 1)⟩,
  ⟨some 6, none, .fld (.t 2) 0⟩,
  ⟨some 7, none, .ld (.t 6)⟩,
  ⟨some 8, none, .slen (.t 7)⟩,
  ⟨some 9, none, .bin .sub (.t 5) (.t 8)⟩,
  ⟨some 1, none, .asg true (.t 9)⟩]
def c_laws_szListed_r4 : List GOp := [⟨some 2, none, .box (.t 0)⟩,
  ⟨some 4, none, .asg false (.c (.int .i64 0))⟩]
def c_laws_szListed : CC := .seq (.reg none c_laws_szListed_r4 [1, 2]) (.seq (.reg none c_laws_szListed_r3 [1]) (.seq (.seq (.reg none c_laws_szListed_r2 [1, 11]) (.cnd (.t 11) (.seq (.reg none c_laws_szListed_r1 [4]) (.ret)) (.skip))) (.seq (.reg none c_laws_szListed_r0 [4]) (.ret))))
theorem k_laws_szListed : chkF Tryz.prog Tryz.f47 c_laws_szListed [.tmp 4] = true := by kernel_rfl
theorem S_laws_szListed {args : List AV} {r : List RV} (hs : sizeXs Tryz.prog Tryz.f47.results.toList r = true) (hn : args.length ≤ 13) (h : Run Tryz.prog [.tmp 4] [.code c_laws_szListed] (argEnv args 0) r) : CallsOK Tryz.prog F_laws_szListed args r := callsOK Tryz.func47 k_laws_szListed hs hn h

-- loop.example/g03003/laws.szMeaning
def c_laws_szMeaning_r0 : List GOp := [⟨some 12, none, .mv (.t 1)⟩,
  ⟨some 4, none, .asg true (.t 12)⟩]
def c_laws_szMeaning_r1 : List GOp := [⟨some 4, none, .asg false (.c (.int .i64 (-1)))⟩]
def c_laws_szMeaning_r2 : List GOp := [⟨some 10, none, .mv (.t 1)⟩,
  ⟨some 11, none, .bin .lss (.t 10) (.c (.int .i64 0))⟩]
def c_laws_szMeaning_r3 : List GOp := [⟨some 5, none, .mv (.t 1)⟩,
  ⟨some 6, none, .fld (.t 2) 0⟩,
  ⟨some 7, none, .ld (.t 6)⟩,
  ⟨some 8, none, .slen (.t 7)⟩,
  ⟨some 9, none, .bin .sub (.t 5) (.t 8)⟩,
  ⟨some 1, none, .asg true (.t 9)⟩]
def c_laws_szMeaning_r4 : List GOp := [⟨some 2, none, .box (.t 0)⟩,
  ⟨some 4, none, .asg false (.c (.int .i64 0))⟩]
def c_laws_szMeaning : CC := .seq (.reg none c_laws_szMeaning_r4 [1, 2]) (.seq (.reg none c_laws_szMeaning_r3 [1]) (.seq (.seq (.reg none c_laws_szMeaning_r2 [1, 11]) (.cnd (.t 11) (.seq (.reg none c_laws_szMeaning_r1 [4]) (.ret)) (.skip))) (.seq (.reg none c_laws_szMeaning_r0 [4]) (.ret))))
theorem k_laws_szMeaning : chkF Tryz.prog Tryz.f48 c_laws_szMeaning [.tmp 4] = true := by kernel_rfl
theorem S_laws_szMeaning {args : List AV} {r : List RV} (hs : sizeXs Tryz.prog Tryz.f48.results.toList r = true) (hn : args.length ≤ 13) (h : Run Tryz.prog [.tmp 4] [.code c_laws_szMeaning] (argEnv args 0) r) : CallsOK Tryz.prog F_laws_szMeaning args r := callsOK Tryz.func48 k_laws_szMeaning hs hn h

-- loop.example/g03003/spec.l33Copy
def c_spec_l33Copy_r0 : List GOp := [⟨some 48, none, .lda 13 (.t 3)⟩,
  ⟨none, none, .sto 13 (.t 2) (.t 48)⟩]
def c_spec_l33Copy_r1 : List GOp := [⟨some 35, none, .mv (.t 4)⟩,
  ⟨some 36, none, .bin .add (.t 35) (.c (.int .i64 1))⟩,
  ⟨some 4, none, .asg true (.t 36)⟩]
def c_spec_l33Copy_r2 : List GOp := [⟨some 37, none, .fld (.t 3) 8⟩,
  ⟨some 38, none, .ld (.t 37)⟩,
  ⟨some 39, none, .fld (.t 1) 8⟩,
  ⟨some 40, none, .ld (.t 39)⟩,
  ⟨some 41, none, .mv (.t 4)⟩,
  ⟨some 42, none, .idx 10 (.t 40) (.t 41)⟩,
  ⟨some 43, none, .lda 10 (.t 42)⟩,
  ⟨some 44, none, .call F_spec_l30Copy [.t 43]⟩,
  ⟨some 45, none, .bsl 10 [.t 44]⟩,
  ⟨some 46, none, .app T_impl_Issue 10 128 (.t 38) (.t 45)⟩,
  ⟨some 47, none, .fld (.t 3) 8⟩,
  ⟨none, none, .sto 1 (.t 47) (.t 46)⟩]
def c_spec_l33Copy_r3 : List GOp := [⟨some 30, none, .mv (.t 4)⟩,
  ⟨some 31, none, .fld (.t 1) 8⟩,
  ⟨some 32, none, .ld (.t 31)⟩,
  ⟨some 33, none, .len (.t 32)⟩,
  ⟨some 34, none, .bin .lss (.t 30) (.t 33)⟩]
def c_spec_l33Copy_b0 : CC := .seq (.seq (.reg none c_spec_l33Copy_r3 [1, 2, 3, 4, 34]) (.cnd (.t 34) (.skip) (.exit 0))) (.seq (.blk 1 (.reg (some (9, [[], [0], [], [2], [], [2, 3, 4], [2, 3, 4, 5], [2, 3, 4, 5, 6], [2, 3, 4, 5, 6, 7], [0, 1, 2, 3, 4, 5, 6, 7, 8], [0, 1, 2, 3, 4, 5, 6, 7, 8, 9], [0, 1, 2, 3, 4, 5, 6, 7, 8, 9, 10]])) c_spec_l33Copy_r2 [1, 2, 3, 4])) (.reg none c_spec_l33Copy_r1 [1, 2, 3, 4]))
def c_spec_l33Copy_r4 : List GOp := [⟨some 4, none, .asg false (.c (.int .i64 0))⟩]
def c_spec_l33Copy_r5 : List GOp := [⟨some 5, none, .bslo T_impl_Listed 4 40 []⟩,
  ⟨some 6, none, .fld (.t 1) 0⟩,
  ⟨some 7, none, .ld (.t 6)⟩,
  ⟨some 8, none, .app T_impl_Listed 4 40 (.t 5) (.t 7)⟩,
  ⟨some 9, none, .bslo T_impl_Meaning 2 24 []⟩,
  ⟨some 10, none, .fld (.t 1) 1⟩,
  ⟨some 11, none, .ld (.t 10)⟩,
  ⟨some 12, none, .app T_impl_Meaning 2 24 (.t 9) (.t 11)⟩,
  ⟨some 13, none, .fld (.t 1) 2⟩,
  ⟨some 14, none, .lda 6 (.t 13)⟩,
  ⟨some 15, none, .call F_spec_l27Copy [.t 14]⟩,
  ⟨some 16, none, .bslo T_impl_Used 2 24 []⟩,
  ⟨some 17, none, .fld (.t 1) 9⟩,
  ⟨some 18, none, .ld (.t 17)⟩,
  ⟨some 19, none, .app T_impl_Used 2 24 (.t 16) (.t 18)⟩,
  ⟨some 20, none, .fld (.t 1) 10⟩,
  ⟨some 21, none, .ld (.t 20)⟩,
  ⟨some 22, none, .call F_spec_l31Copy [.t 21]⟩,
  ⟨some 23, none, .bslo T_impl_Entry 4 40 []⟩,
  ⟨some 24, none, .fld (.t 1) 11⟩,
  ⟨some 25, none, .ld (.t 24)⟩,
  ⟨some 26, none, .app T_impl_Entry 4 40 (.t 23) (.t 25)⟩,
  ⟨some 27, none, .fld (.t 1) 12⟩,
  ⟨some 28, none, .ld (.t 27)⟩,
  ⟨some 29, none, .bld [.sl 4 [], .sl 2 [], .int .i64 0, .int .i64 0, .str [], .str [], .sl 2 [], .int .i64 0, .sl 10 [], .sl 2 [], .sl 5 [], .sl 4 [], .int .i64 0] [(0, 1, .t 8), (1, 1, .t 12), (2, 6, .t 15), (9, 1, .t 19), (10, 1, .t 22), (11, 1, .t 26), (12, 1, .t 28)]⟩,
  ⟨some 3, none, .alc [.sl 4 [], .sl 2 [], .int .i64 0, .int .i64 0, .str [], .str [], .sl 2 [], .int .i64 0, .sl 10 [], .sl 2 [], .sl 5 [], .sl 4 [], .int .i64 0]⟩,
  ⟨none, none, .sto 13 (.t 3) (.t 29)⟩]
def c_spec_l33Copy_r6 : List GOp := [⟨some 1, none, .box (.t 0)⟩,
  ⟨some 2, none, .alc [.sl 4 [], .sl 2 [], .int .i64 0, .int .i64 0, .str [], .str [], .sl 2 [], .int .i64 0, .sl 10 [], .sl 2 [], .sl 5 [], .sl 4 [], .int .i64 0]⟩]
def c_spec_l33Copy : CC := .seq (.reg none c_spec_l33Copy_r6 [1, 2]) (.seq (.any [[], [], [1], [0, 1, 2], [], [], [5], [0, 1, 2, 3, 4, 5, 6], [], [8], [0, 1, 2, 3, 4, 5, 6, 7, 8, 9], [], [], [12], [0, 1, 2, 3, 4, 5, 6, 7, 8, 9, 10, 11, 12, 13], [], [15], [0, 1, 2, 3, 4, 5, 6, 7, 8, 9, 10, 11, 12, 13, 14, 15, 16], [], [], [19], [0, 1, 2, 3, 4, 5, 6, 7, 8, 9, 10, 11, 12, 13, 14, 15, 16, 17, 18, 19, 20], [], [22], [0, 1, 2, 3, 4, 5, 6, 7, 8, 9, 10, 11, 12, 13, 14, 15, 16, 17, 18, 19, 20, 21, 22, 23], [], [0, 1, 2, 3, 4, 5, 6, 7, 8, 9, 10, 11, 12, 13, 14, 15, 16, 17, 18, 19, 20, 21, 22, 23, 24, 25]] c_spec_l33Copy_r5 [1, 2, 3]) (.seq (.seq (.reg none c_spec_l33Copy_r4 [1, 2, 3, 4]) (.blk 0 (.loop c_spec_l33Copy_b0 [1, 2, 3, 4]))) (.seq (.reg none c_spec_l33Copy_r0 [2]) (.ret))))
abbrev L_spec_l33Copy_0 (P : Program) (E : Env) (r : List RV) : Prop := Run P [.cella 2] (.code c_spec_l33Copy_b0 :: .lp c_spec_l33Copy_b0 [1, 2, 3, 4] :: [.blk 0, .code (.seq (.reg none c_spec_l33Copy_r0 [2]) (.ret))]) E r
theorem k_spec_l33Copy : chkF Tryz.prog Tryz.f49 c_spec_l33Copy [.cella 2] = true := by kernel_rfl
theorem S_spec_l33Copy {args : List AV} {r : List RV} (hs : sizeXs Tryz.prog Tryz.f49.results.toList r = true) (hn : args.length ≤ 49) (h : Run Tryz.prog [.cella 2] [.code c_spec_l33Copy] (argEnv args 0) r) : CallsOK Tryz.prog F_spec_l33Copy args r := callsOK Tryz.func49 k_spec_l33Copy hs hn h

-- loop.example/g03003/spec.IsHouse
def c_spec_IsHouse_r0 : List GOp := [⟨some 29, none, .fld (.t 1) 0⟩,
  ⟨some 30, none, .ld (.t 29)⟩,
  ⟨some 31, none, .call F_spec_IsList [.t 30]⟩,
  ⟨some 32, none, .mv (.t 31)⟩,
  ⟨some 33, some (32, true), .fld (.t 1) 1⟩,
  ⟨some 34, some (32, true), .ld (.t 33)⟩,
  ⟨some 35, some (32, true), .call F_spec_IsDictionary [.t 34]⟩,
  ⟨some 36, none, .pick (.t 32) (.t 35) (.c (.bool false))⟩,
  ⟨some 37, none, .mv (.t 36)⟩,
  ⟨some 38, some (37, true), .fld (.t 1) 2⟩,
  ⟨some 39, some (37, true), .lda 6 (.t 38)⟩,
  ⟨some 40, some (37, true), .call F_spec_l33Zero [.t 39]⟩,
  ⟨some 41, some (37, true), .mv (.t 40)⟩,
  ⟨some 42, some (41, false), .fld (.t 1) 2⟩,
  ⟨some 43, some (41, false), .lda 6 (.t 42)⟩,
  ⟨some 44, some (41, false), .call F_spec_IsDraft [.t 43]⟩,
  ⟨some 45, some (37, true), .pick (.t 41) (.c (.bool true)) (.t 44)⟩,
  ⟨some 46, none, .pick (.t 37) (.t 45) (.c (.bool false))⟩,
  ⟨some 47, none, .mv (.t 46)⟩,
  ⟨some 48, some (47, true), .fld (.t 1) 8⟩,
  ⟨some 49, some (47, true), .ld (.t 48)⟩,
  ⟨some 50, some (47, true), .len (.t 49)⟩,
  ⟨some 51, some (47, true), .bin .leq (.t 50) (.c (.int .i64 5))⟩,
  ⟨some 52, none, .pick (.t 47) (.t 51) (.c (.bool false))⟩,
  ⟨some 53, none, .mv (.t 52)⟩,
  ⟨some 54, some (53, true), .lda 13 (.t 1)⟩,
  ⟨some 55, some (53, true), .call F_spec_l33Rest [.t 54]⟩,
  ⟨some 56, none, .pick (.t 53) (.t 55) (.c (.bool false))⟩,
  ⟨some 57, none, .mv (.t 56)⟩,
  ⟨some 58, some (57, true), .fld (.t 1) 12⟩,
  ⟨some 59, some (57, true), .ld (.t 58)⟩,
  ⟨some 60, some (57, true), .call F_spec_l1In [.t 59, .c (.int .i64 0), .c (.int .i64 1000)]⟩,
  ⟨some 61, none, .pick (.t 57) (.t 60) (.c (.bool false))⟩,
  ⟨some 2, none, .asg true (.t 61)⟩]
def c_spec_IsHouse_r1 : List GOp := [⟨some 9, none, .mv (.t 3)⟩,
  ⟨some 10, none, .bin .add (.t 9) (.c (.int .i64 1))⟩,
  ⟨some 3, none, .asg true (.t 10)⟩]
def c_spec_IsHouse_r2 : List GOp := [⟨some 2, none, .asg false (.c (.bool false))⟩]
def c_spec_IsHouse_r3 : List GOp := [⟨some 11, none, .fld (.t 1) 8⟩,
  ⟨some 12, none, .ld (.t 11)⟩,
  ⟨some 13, none, .mv (.t 3)⟩,
  ⟨some 14, none, .idx 10 (.t 12) (.t 13)⟩,
  ⟨some 15, none, .lda 10 (.t 14)⟩,
  ⟨some 16, none, .call F_spec_IsIssue [.t 15]⟩,
  ⟨some 17, none, .not (.t 16)⟩,
  ⟨some 18, none, .mv (.t 17)⟩,
  ⟨some 19, some (18, false), .fld (.t 1) 8⟩,
  ⟨some 20, some (18, false), .ld (.t 19)⟩,
  ⟨some 21, some (18, false), .mv (.t 3)⟩,
  ⟨some 22, some (18, false), .idx 10 (.t 20) (.t 21)⟩,
  ⟨some 23, some (18, false), .fld (.t 22) 0⟩,
  ⟨some 24, some (18, false), .ld (.t 23)⟩,
  ⟨some 25, some (18, false), .mv (.t 3)⟩,
  ⟨some 26, some (18, false), .bin .add (.t 25) (.c (.int .i64 1))⟩,
  ⟨some 27, some (18, false), .bin .neq (.t 24) (.t 26)⟩,
  ⟨some 28, none, .pick (.t 18) (.c (.bool true)) (.t 27)⟩]
def c_spec_IsHouse_r4 : List GOp := [⟨some 4, none, .mv (.t 3)⟩,
  ⟨some 5, none, .fld (.t 1) 8⟩,
  ⟨some 6, none, .ld (.t 5)⟩,
  ⟨some 7, none, .len (.t 6)⟩,
  ⟨some 8, none, .bin .lss (.t 4) (.t 7)⟩]
def c_spec_IsHouse_b0 : CC := .seq (.seq (.reg none c_spec_IsHouse_r4 [1, 3, 8]) (.cnd (.t 8) (.skip) (.exit 0))) (.seq (.blk 1 (.seq (.reg none c_spec_IsHouse_r3 [1, 3, 28]) (.cnd (.t 28) (.seq (.reg none c_spec_IsHouse_r2 [2]) (.ret)) (.skip)))) (.reg none c_spec_IsHouse_r1 [1, 3]))
def c_spec_IsHouse_r5 : List GOp := [⟨some 3, none, .asg false (.c (.int .i64 0))⟩]
def c_spec_IsHouse_r6 : List GOp := [⟨some 1, none, .box (.t 0)⟩,
  ⟨some 2, none, .asg false (.c (.bool false))⟩]
def c_spec_IsHouse : CC := .seq (.reg none c_spec_IsHouse_r6 [1]) (.seq (.seq (.reg none c_spec_IsHouse_r5 [1, 3]) (.blk 0 (.loop c_spec_IsHouse_b0 [1, 3]))) (.seq (.reg none c_spec_IsHouse_r0 [2]) (.ret)))
abbrev L_spec_IsHouse_0 (P : Program) (E : Env) (r : List RV) : Prop := Run P [.tmp 2] (.code c_spec_IsHouse_b0 :: .lp c_spec_IsHouse_b0 [1, 3] :: [.blk 0, .code (.seq (.reg none c_spec_IsHouse_r0 [2]) (.ret))]) E r
theorem k_spec_IsHouse : chkF Tryz.prog Tryz.f50 c_spec_IsHouse [.tmp 2] = true := by kernel_rfl
theorem S_spec_IsHouse {args : List AV} {r : List RV} (hs : sizeXs Tryz.prog Tryz.f50.results.toList r = true) (hn : args.length ≤ 62) (h : Run Tryz.prog [.tmp 2] [.code c_spec_IsHouse] (argEnv args 0) r) : CallsOK Tryz.prog F_spec_IsHouse args r := callsOK Tryz.func50 k_spec_IsHouse hs hn h

-- loop.example/g03003/laws.toListed
def c_laws_toListed_r0 : List GOp := [⟨some 16, none, .lda 4 (.t 3)⟩,
  ⟨none, none, .sto 4 (.t 2) (.t 16)⟩]
def c_laws_toListed_r1 : List GOp := [⟨some 13, none, .fld (.t 1) 3⟩,
  ⟨some 14, none, .ld (.t 13)⟩,
  ⟨some 15, none, .fld (.t 3) 3⟩,
  ⟨none, none, .sto 1 (.t 15) (.t 14)⟩]
def c_laws_toListed_r2 : List GOp := [⟨some 10, none, .fld (.t 1) 2⟩,
  ⟨some 11, none, .ld (.t 10)⟩,
  ⟨some 12, none, .fld (.t 3) 2⟩,
  ⟨none, none, .sto 1 (.t 12) (.t 11)⟩]
def c_laws_toListed_r3 : List GOp := [⟨some 7, none, .fld (.t 1) 1⟩,
  ⟨some 8, none, .ld (.t 7)⟩,
  ⟨some 9, none, .fld (.t 3) 1⟩,
  ⟨none, none, .sto 1 (.t 9) (.t 8)⟩]
def c_laws_toListed_r4 : List GOp := [⟨some 4, none, .fld (.t 1) 0⟩,
  ⟨some 5, none, .ld (.t 4)⟩,
  ⟨some 6, none, .fld (.t 3) 0⟩,
  ⟨none, none, .sto 1 (.t 6) (.t 5)⟩]
def c_laws_toListed_r5 : List GOp := [⟨some 3, none, .alc [.str [], .int .i64 0, .int .i64 0, .int .i64 0]⟩]
def c_laws_toListed_r6 : List GOp := [⟨some 1, none, .box (.t 0)⟩,
  ⟨some 2, none, .alc [.str [], .int .i64 0, .int .i64 0, .int .i64 0]⟩]
def c_laws_toListed : CC := .seq (.reg none c_laws_toListed_r6 [1, 2]) (.seq (.reg none c_laws_toListed_r5 [1, 2, 3]) (.seq (.reg none c_laws_toListed_r4 [1, 2, 3]) (.seq (.reg none c_laws_toListed_r3 [1, 2, 3]) (.seq (.reg none c_laws_toListed_r2 [1, 2, 3]) (.seq (.reg none c_laws_toListed_r1 [2, 3]) (.seq (.reg none c_laws_toListed_r0 [2]) (.ret)))))))
theorem k_laws_toListed : chkF Tryz.prog Tryz.f51 c_laws_toListed [.cella 2] = true := by kernel_rfl
theorem S_laws_toListed {args : List AV} {r : List RV} (hs : sizeXs Tryz.prog Tryz.f51.results.toList r = true) (hn : args.length ≤ 17) (h : Run Tryz.prog [.cella 2] [.code c_laws_toListed] (argEnv args 0) r) : CallsOK Tryz.prog F_laws_toListed args r := callsOK Tryz.func51 k_laws_toListed hs hn h

-- loop.example/g03003/laws.toMeaning
def c_laws_toMeaning_r0 : List GOp := [⟨some 10, none, .lda 2 (.t 3)⟩,
  ⟨none, none, .sto 2 (.t 2) (.t 10)⟩]
def c_laws_toMeaning_r1 : List GOp := [⟨some 7, none, .fld (.t 1) 1⟩,
  ⟨some 8, none, .ld (.t 7)⟩,
  ⟨some 9, none, .fld (.t 3) 1⟩,
  ⟨none, none, .sto 1 (.t 9) (.t 8)⟩]
def c_laws_toMeaning_r2 : List GOp := [⟨some 4, none, .fld (.t 1) 0⟩,
  ⟨some 5, none, .ld (.t 4)⟩,
  ⟨some 6, none, .fld (.t 3) 0⟩,
  ⟨none, none, .sto 1 (.t 6) (.t 5)⟩]
def c_laws_toMeaning_r3 : List GOp := [⟨some 3, none, .alc [.str [], .int .i64 0]⟩]
def c_laws_toMeaning_r4 : List GOp := [⟨some 1, none, .box (.t 0)⟩,
  ⟨some 2, none, .alc [.str [], .int .i64 0]⟩]
def c_laws_toMeaning : CC := .seq (.reg none c_laws_toMeaning_r4 [1, 2]) (.seq (.reg none c_laws_toMeaning_r3 [1, 2, 3]) (.seq (.reg none c_laws_toMeaning_r2 [1, 2, 3]) (.seq (.reg none c_laws_toMeaning_r1 [2, 3]) (.seq (.reg none c_laws_toMeaning_r0 [2]) (.ret)))))
theorem k_laws_toMeaning : chkF Tryz.prog Tryz.f52 c_laws_toMeaning [.cella 2] = true := by kernel_rfl
theorem S_laws_toMeaning {args : List AV} {r : List RV} (hs : sizeXs Tryz.prog Tryz.f52.results.toList r = true) (hn : args.length ≤ 11) (h : Run Tryz.prog [.cella 2] [.code c_laws_toMeaning] (argEnv args 0) r) : CallsOK Tryz.prog F_laws_toMeaning args r := callsOK Tryz.func52 k_laws_toMeaning hs hn h

-- loop.example/g03003/impl.copyHouse
def c_impl_copyHouse_r0 : List GOp := [⟨some 45, none, .lda 13 (.t 1)⟩,
  ⟨none, none, .sto 13 (.t 2) (.t 45)⟩]
def c_impl_copyHouse_r1 : List GOp := [⟨some 41, none, .fld (.t 1) 11⟩,
  ⟨some 42, none, .ld (.t 41)⟩,
  ⟨some 43, none, .call F_slices_Clone_impl_Entry [.t 42]⟩,
  ⟨some 44, none, .fld (.t 1) 11⟩,
  ⟨none, none, .sto 1 (.t 44) (.t 43)⟩]
def c_impl_copyHouse_r2 : List GOp := [⟨some 37, none, .fld (.t 1) 10⟩,
  ⟨some 38, none, .ld (.t 37)⟩,
  ⟨some 39, none, .call F_impl_copyCorrections [.t 38]⟩,
  ⟨some 40, none, .fld (.t 1) 10⟩,
  ⟨none, none, .sto 1 (.t 40) (.t 39)⟩]
def c_impl_copyHouse_r3 : List GOp := [⟨some 33, none, .fld (.t 1) 9⟩,
  ⟨some 34, none, .ld (.t 33)⟩,
  ⟨some 35, none, .call F_slices_Clone_impl_Used [.t 34]⟩,
  ⟨some 36, none, .fld (.t 1) 9⟩,
  ⟨none, none, .sto 1 (.t 36) (.t 35)⟩]
def c_impl_copyHouse_r4 : List GOp := [⟨some 31, none, .mv (.t 3)⟩,
  ⟨some 32, none, .fld (.t 1) 8⟩,
  ⟨none, none, .sto 1 (.t 32) (.t 31)⟩]
def c_impl_copyHouse_r5 : List GOp := [⟨some 30, none, .bin .add (.t 21) (.c (.int .i64 1))⟩,
  ⟨some 21, none, .mv (.t 30)⟩]
def c_impl_copyHouse_r6 : List GOp := [⟨some 25, none, .mv (.t 3)⟩,
  ⟨some 26, none, .lda 10 (.t 5)⟩,
  ⟨some 27, none, .call F_impl_copyIssue [.t 26]⟩,
  ⟨some 28, none, .bsl 10 [.t 27]⟩,
  ⟨some 29, none, .app T_impl_Issue 10 128 (.t 25) (.t 28)⟩,
  ⟨some 3, none, .asg true (.t 29)⟩]
def c_impl_copyHouse_r7 : List GOp := [⟨some 23, none, .idx 10 (.t 19) (.t 21)⟩,
  ⟨some 24, none, .lda 10 (.t 23)⟩,
  ⟨some 5, none, .alc [.int .i64 0, .int .i64 0, .int .i64 0, .str [], .sl 2 [], .sl 1 [], .int .i64 0, .str [], .int .i64 0, .int .i64 0]⟩,
  ⟨none, none, .sto 10 (.t 5) (.t 24)⟩]
def c_impl_copyHouse_r8 : List GOp := [⟨some 22, none, .bin .lss (.t 21) (.t 20)⟩]
def c_impl_copyHouse_b0 : CC := .seq (.reg none c_impl_copyHouse_r8 [1, 2, 3, 19, 20, 21, 22, 1000, 1001, 1002, 1003, 1004, 1005, 1006, 1007, 1008, 1009]) (.seq (.cnd (.t 22) (.skip) (.exit 0)) (.seq (.blk 1 (.seq (.reg none c_impl_copyHouse_r7 [1, 2, 3, 5, 19, 20, 21, 1000, 1001, 1002, 1003, 1004, 1005, 1006, 1007, 1008, 1009]) (.reg none c_impl_copyHouse_r6 [1, 2, 3, 19, 20, 21, 1000, 1001, 1002, 1003, 1004, 1005, 1006, 1007, 1008, 1009]))) (.reg none c_impl_copyHouse_r5 [1, 2, 3, 19, 20, 21, 1000, 1001, 1002, 1003, 1004, 1005, 1006, 1007, 1008, 1009])))
def c_impl_copyHouse_r9 : List GOp := [⟨some 18, none, .fld (.t 1) 8⟩,
  ⟨some 19, none, .ld (.t 18)⟩,
  ⟨some 20, none, .len (.t 19)⟩,
  ⟨some 21, none, .mv (.c (.int .i64 0))⟩]
def c_impl_copyHouse_r10 : List GOp := [⟨some 3, none, .nilo T_impl_Issue 10 128⟩]
def c_impl_copyHouse_r11 : List GOp := [⟨some 14, none, .fld (.t 1) 2⟩,
  ⟨some 15, none, .lda 6 (.t 14)⟩,
  ⟨some 16, none, .call F_impl_copyDraft [.t 15]⟩,
  ⟨some 17, none, .fld (.t 1) 2⟩,
  ⟨none, none, .sto 6 (.t 17) (.t 16)⟩]
def c_impl_copyHouse_r12 : List GOp := [⟨some 10, none, .fld (.t 1) 1⟩,
  ⟨some 11, none, .ld (.t 10)⟩,
  ⟨some 12, none, .call F_slices_Clone_impl_Meaning [.t 11]⟩,
  ⟨some 13, none, .fld (.t 1) 1⟩,
  ⟨none, none, .sto 1 (.t 13) (.t 12)⟩]
def c_impl_copyHouse_r13 : List GOp := [⟨some 6, none, .fld (.t 1) 0⟩,
  ⟨some 7, none, .ld (.t 6)⟩,
  ⟨some 8, none, .call F_slices_Clone_impl_Listed [.t 7]⟩,
  ⟨some 9, none, .fld (.t 1) 0⟩,
  ⟨none, none, .sto 1 (.t 9) (.t 8)⟩]
def c_impl_copyHouse_r14 : List GOp := [⟨some 1, none, .box (.t 0)⟩,
  ⟨some 2, none, .alc [.sl 4 [], .sl 2 [], .int .i64 0, .int .i64 0, .str [], .str [], .sl 2 [], .int .i64 0, .sl 10 [], .sl 2 [], .sl 5 [], .sl 4 [], .int .i64 0]⟩]
def c_impl_copyHouse : CC := .seq (.reg none c_impl_copyHouse_r14 [1, 2, 1000, 1001, 1002, 1003, 1004, 1005, 1006, 1007, 1008, 1009]) (.seq (.reg none c_impl_copyHouse_r13 [1, 2, 1000, 1001, 1002, 1003, 1004, 1005, 1006, 1007, 1008, 1009]) (.seq (.reg none c_impl_copyHouse_r12 [1, 2, 1000, 1001, 1002, 1003, 1004, 1005, 1006, 1007, 1008, 1009]) (.seq (.reg none c_impl_copyHouse_r11 [1, 2, 1000, 1001, 1002, 1003, 1004, 1005, 1006, 1007, 1008, 1009]) (.seq (.reg none c_impl_copyHouse_r10 [1, 2, 3, 1000, 1001, 1002, 1003, 1004, 1005, 1006, 1007, 1008, 1009]) (.seq (.seq (.reg none c_impl_copyHouse_r9 [1, 2, 3, 19, 20, 21, 1000, 1001, 1002, 1003, 1004, 1005, 1006, 1007, 1008, 1009]) (.blk 0 (.loop c_impl_copyHouse_b0 [1, 2, 3, 19, 20, 21, 1000, 1001, 1002, 1003, 1004, 1005, 1006, 1007, 1008, 1009]))) (.seq (.reg none c_impl_copyHouse_r4 [1, 2, 1000, 1001, 1002, 1003, 1004, 1005, 1006, 1007, 1008, 1009]) (.seq (.reg none c_impl_copyHouse_r3 [1, 2, 1000, 1001, 1002, 1003, 1004, 1005, 1006, 1007, 1008, 1009]) (.seq (.reg none c_impl_copyHouse_r2 [1, 2, 1000, 1001, 1002, 1003, 1004, 1005, 1006, 1007, 1008, 1009]) (.seq (.reg none c_impl_copyHouse_r1 [1, 2, 1000, 1001, 1002, 1003, 1004, 1005, 1006, 1007, 1008, 1009]) (.seq (.reg none c_impl_copyHouse_r0 [2, 1000, 1001, 1002, 1003, 1004, 1005, 1006, 1007, 1008, 1009]) (.ret)))))))))))
abbrev L_impl_copyHouse_0 (P : Program) (Q : Env → Prop) (E : Env) : Prop := RunQ P Q (.code c_impl_copyHouse_b0 :: .lp c_impl_copyHouse_b0 [1, 2, 3, 19, 20, 21, 1000, 1001, 1002, 1003, 1004, 1005, 1006, 1007, 1008, 1009] :: [.blk 0, .code (.seq (.reg none c_impl_copyHouse_r4 [1, 2, 1000, 1001, 1002, 1003, 1004, 1005, 1006, 1007, 1008, 1009]) (.seq (.reg none c_impl_copyHouse_r3 [1, 2, 1000, 1001, 1002, 1003, 1004, 1005, 1006, 1007, 1008, 1009]) (.seq (.reg none c_impl_copyHouse_r2 [1, 2, 1000, 1001, 1002, 1003, 1004, 1005, 1006, 1007, 1008, 1009]) (.seq (.reg none c_impl_copyHouse_r1 [1, 2, 1000, 1001, 1002, 1003, 1004, 1005, 1006, 1007, 1008, 1009]) (.seq (.reg none c_impl_copyHouse_r0 [2, 1000, 1001, 1002, 1003, 1004, 1005, 1006, 1007, 1008, 1009]) (.ret))))))]) E
theorem k_impl_copyHouse : chkF Tryz.prog Tryz.f53 c_impl_copyHouse [.cella 2] = true := by kernel_rfl
theorem S_impl_copyHouse {args : List AV} {r : List RV} (hs : sizeXs Tryz.prog Tryz.f53.results.toList r = true) (hn : args.length ≤ 46) (h : Run Tryz.prog [.cella 2] [.code c_impl_copyHouse] (argEnv args 0) r) : CallsOK Tryz.prog F_impl_copyHouse args r := callsOK Tryz.func53 k_impl_copyHouse hs hn h
theorem SH_impl_copyHouse {args : (Nat → Value) → List AV} {res : (Nat → Value) → List RV} {hin hout : List HT} (ni no : List Nat) (hs : ∀ v, sizeXs Tryz.prog Tryz.f53.results.toList (res v) = true) (hn : ∀ v, (args v).length ≤ 46 ∧ ∀ n ∈ ni, (args v).length ≤ n) (hni : ni.Nodup) (hno : no.Nodup) (h : ∀ u : Gh, RunQ Tryz.prog (fun E => ∃ u' : Gh, resP E [.cella 2] = some (res u'.1) ∧ (∀ i, i < hin.length → u'.1 i = u.1 i) ∧ GetH E (fun i => decide (hin.length ≤ i)) u' no hout 0) [.code c_impl_copyHouse] (envH (fun _ => false) u ni hin 0 ++ argEnv (args u.1) 0)) : CallsH Tryz.prog F_impl_copyHouse hin hout args res := callsH_of_run ni no Tryz.func53 k_impl_copyHouse hs hn hni hno h

-- loop.example/g03003/impl.IsHouse
def c_impl_IsHouse_r0 : List GOp := [⟨some 2, none, .asg false (.c (.bool true))⟩]
def c_impl_IsHouse_r1 : List GOp := [⟨some 146, none, .bin .add (.t 120) (.c (.int .i64 1))⟩,
  ⟨some 120, none, .mv (.t 146)⟩]
def c_impl_IsHouse_r2 : List GOp := [⟨some 2, none, .asg false (.c (.bool false))⟩]
def c_impl_IsHouse_r3 : List GOp := [⟨some 131, none, .mv (.t 12)⟩,
  ⟨some 132, none, .not (.t 131)⟩,
  ⟨some 133, none, .mv (.t 132)⟩,
  ⟨some 134, some (133, false), .lda 4 (.t 10)⟩,
  ⟨some 135, some (133, false), .lda 10 (.t 11)⟩,
  ⟨some 136, some (133, false), .call F_impl_IsEntry [.t 134, .t 135]⟩,
  ⟨some 137, some (133, false), .not (.t 136)⟩,
  ⟨some 138, none, .pick (.t 133) (.c (.bool true)) (.t 137)⟩,
  ⟨some 139, none, .mv (.t 138)⟩,
  ⟨some 140, some (139, false), .fld (.t 10) 2⟩,
  ⟨some 141, some (139, false), .ld (.t 140)⟩,
  ⟨some 142, some (139, false), .fld (.t 1) 12⟩,
  ⟨some 143, some (139, false), .ld (.t 142)⟩,
  ⟨some 144, some (139, false), .bin .gtr (.t 141) (.t 143)⟩,
  ⟨some 145, none, .pick (.t 139) (.c (.bool true)) (.t 144)⟩]
def c_impl_IsHouse_r4 : List GOp := [⟨some 125, none, .lda 13 (.t 1)⟩,
  ⟨some 126, none, .fld (.t 10) 1⟩,
  ⟨some 127, none, .ld (.t 126)⟩,
  ⟨some 128, none, .call F_impl_IssueOf [.t 125, .t 127]⟩,
  ⟨some 124, none, .mv (.t 128)⟩,
  ⟨some 129, none, .ext (.t 124) 0⟩,
  ⟨some 130, none, .ext (.t 124) 1⟩,
  ⟨some 11, none, .alc [.int .i64 0, .int .i64 0, .int .i64 0, .str [], .sl 2 [], .sl 1 [], .int .i64 0, .str [], .int .i64 0, .int .i64 0]⟩,
  ⟨none, none, .sto 10 (.t 11) (.t 129)⟩,
  ⟨some 12, none, .asg true (.t 130)⟩]
def c_impl_IsHouse_r5 : List GOp := [⟨some 122, none, .idx 4 (.t 118) (.t 120)⟩,
  ⟨some 123, none, .lda 4 (.t 122)⟩,
  ⟨some 10, none, .alc [.int .i64 0, .int .i64 0, .int .i64 0, .str []]⟩,
  ⟨none, none, .sto 4 (.t 10) (.t 123)⟩]
def c_impl_IsHouse_r6 : List GOp := [⟨some 121, none, .bin .lss (.t 120) (.t 119)⟩]
def c_impl_IsHouse_b0 : CC := .seq (.reg none c_impl_IsHouse_r6 [1, 118, 119, 120, 121]) (.seq (.cnd (.t 121) (.skip) (.exit 4)) (.seq (.blk 5 (.seq (.reg none c_impl_IsHouse_r5 [1, 10, 118, 119, 120]) (.seq (.reg none c_impl_IsHouse_r4 [1, 10, 11, 12, 118, 119, 120]) (.seq (.reg none c_impl_IsHouse_r3 [1, 118, 119, 120, 145]) (.cnd (.t 145) (.seq (.reg none c_impl_IsHouse_r2 [2]) (.ret)) (.skip)))))) (.reg none c_impl_IsHouse_r1 [1, 118, 119, 120])))
def c_impl_IsHouse_r7 : List GOp := [⟨some 117, none, .fld (.t 1) 11⟩,
  ⟨some 118, none, .ld (.t 117)⟩,
  ⟨some 119, none, .len (.t 118)⟩,
  ⟨some 120, none, .mv (.c (.int .i64 0))⟩]
def c_impl_IsHouse_r8 : List GOp := [⟨some 116, none, .bin .add (.t 86) (.c (.int .i64 1))⟩,
  ⟨some 86, none, .mv (.t 116)⟩]
def c_impl_IsHouse_r9 : List GOp := [⟨some 2, none, .asg false (.c (.bool false))⟩]
def c_impl_IsHouse_r10 : List GOp := [⟨some 97, none, .mv (.t 8)⟩,
  ⟨some 98, none, .not (.t 97)⟩,
  ⟨some 99, none, .mv (.t 98)⟩,
  ⟨some 100, some (99, false), .fld (.t 6) 1⟩,
  ⟨some 101, some (99, false), .ld (.t 100)⟩,
  ⟨some 102, some (99, false), .fld (.t 7) 1⟩,
  ⟨some 103, some (99, false), .fld (.t 102) 3⟩,
  ⟨some 104, some (99, false), .ld (.t 103)⟩,
  ⟨some 105, some (99, false), .len (.t 104)⟩,
  ⟨some 106, some (99, false), .call F_impl_at [.t 101, .t 105]⟩,
  ⟨some 107, some (99, false), .not (.t 106)⟩,
  ⟨some 108, none, .pick (.t 99) (.c (.bool true)) (.t 107)⟩,
  ⟨some 109, none, .mv (.t 108)⟩,
  ⟨some 110, some (109, false), .fld (.t 6) 4⟩,
  ⟨some 111, some (109, false), .ld (.t 110)⟩,
  ⟨some 112, some (109, false), .fld (.t 1) 12⟩,
  ⟨some 113, some (109, false), .ld (.t 112)⟩,
  ⟨some 114, some (109, false), .bin .gtr (.t 111) (.t 113)⟩,
  ⟨some 115, none, .pick (.t 109) (.c (.bool true)) (.t 114)⟩]
def c_impl_IsHouse_r11 : List GOp := [⟨some 91, none, .lda 13 (.t 1)⟩,
  ⟨some 92, none, .fld (.t 6) 0⟩,
  ⟨some 93, none, .ld (.t 92)⟩,
  ⟨some 94, none, .call F_impl_IssueOf [.t 91, .t 93]⟩,
  ⟨some 90, none, .mv (.t 94)⟩,
  ⟨some 95, none, .ext (.t 90) 0⟩,
  ⟨some 96, none, .ext (.t 90) 1⟩,
  ⟨some 7, none, .alc [.int .i64 0, .int .i64 0, .int .i64 0, .str [], .sl 2 [], .sl 1 [], .int .i64 0, .str [], .int .i64 0, .int .i64 0]⟩,
  ⟨none, none, .sto 10 (.t 7) (.t 95)⟩,
  ⟨some 8, none, .asg true (.t 96)⟩]
def c_impl_IsHouse_r12 : List GOp := [⟨some 88, none, .idx 5 (.t 84) (.t 86)⟩,
  ⟨some 89, none, .lda 5 (.t 88)⟩,
  ⟨some 6, none, .alc [.int .i64 0, .int .i64 0, .int .i64 0, .sl 4 [], .int .i64 0]⟩,
  ⟨none, none, .sto 5 (.t 6) (.t 89)⟩]
def c_impl_IsHouse_r13 : List GOp := [⟨some 87, none, .bin .lss (.t 86) (.t 85)⟩]
def c_impl_IsHouse_b1 : CC := .seq (.reg none c_impl_IsHouse_r13 [1, 84, 85, 86, 87]) (.seq (.cnd (.t 87) (.skip) (.exit 2)) (.seq (.blk 3 (.seq (.reg none c_impl_IsHouse_r12 [1, 6, 84, 85, 86]) (.seq (.reg none c_impl_IsHouse_r11 [1, 6, 7, 8, 84, 85, 86]) (.seq (.reg none c_impl_IsHouse_r10 [1, 84, 85, 86, 115]) (.cnd (.t 115) (.seq (.reg none c_impl_IsHouse_r9 [2]) (.ret)) (.skip)))))) (.reg none c_impl_IsHouse_r8 [1, 84, 85, 86])))
def c_impl_IsHouse_r14 : List GOp := [⟨some 83, none, .fld (.t 1) 10⟩,
  ⟨some 84, none, .ld (.t 83)⟩,
  ⟨some 85, none, .len (.t 84)⟩,
  ⟨some 86, none, .mv (.c (.int .i64 0))⟩]
def c_impl_IsHouse_r15 : List GOp := [⟨some 2, none, .asg false (.c (.bool false))⟩]
def c_impl_IsHouse_r16 : List GOp := [⟨some 61, none, .fld (.t 1) 9⟩,
  ⟨some 62, none, .ld (.t 61)⟩,
  ⟨some 63, none, .call F_impl_AreUses [.t 62]⟩,
  ⟨some 64, none, .not (.t 63)⟩,
  ⟨some 65, none, .mv (.t 64)⟩,
  ⟨some 66, some (65, false), .fld (.t 1) 10⟩,
  ⟨some 67, some (65, false), .ld (.t 66)⟩,
  ⟨some 68, some (65, false), .call F_impl_AreCorrections [.t 67]⟩,
  ⟨some 69, some (65, false), .not (.t 68)⟩,
  ⟨some 70, none, .pick (.t 65) (.c (.bool true)) (.t 69)⟩,
  ⟨some 71, none, .mv (.t 70)⟩,
  ⟨some 72, some (71, false), .fld (.t 1) 11⟩,
  ⟨some 73, some (71, false), .ld (.t 72)⟩,
  ⟨some 74, some (71, false), .len (.t 73)⟩,
  ⟨some 75, some (71, false), .bin .gtr (.t 74) (.c (.int .i64 12))⟩,
  ⟨some 76, none, .pick (.t 71) (.c (.bool true)) (.t 75)⟩,
  ⟨some 77, none, .mv (.t 76)⟩,
  ⟨some 78, some (77, false), .fld (.t 1) 12⟩,
  ⟨some 79, some (77, false), .ld (.t 78)⟩,
  ⟨some 80, some (77, false), .call F_impl_InRange [.t 79, .c (.int .i64 0), .c (.int .i64 1000)]⟩,
  ⟨some 81, some (77, false), .not (.t 80)⟩,
  ⟨some 82, none, .pick (.t 77) (.c (.bool true)) (.t 81)⟩]
def c_impl_IsHouse_r17 : List GOp := [⟨some 60, none, .bin .add (.t 45) (.c (.int .i64 1))⟩,
  ⟨some 45, none, .mv (.t 60)⟩]
def c_impl_IsHouse_r18 : List GOp := [⟨some 2, none, .asg false (.c (.bool false))⟩]
def c_impl_IsHouse_r19 : List GOp := [⟨some 50, none, .lda 10 (.t 4)⟩,
  ⟨some 51, none, .call F_impl_IsIssue [.t 50]⟩,
  ⟨some 52, none, .not (.t 51)⟩,
  ⟨some 53, none, .mv (.t 52)⟩,
  ⟨some 54, some (53, false), .fld (.t 4) 0⟩,
  ⟨some 55, some (53, false), .ld (.t 54)⟩,
  ⟨some 56, some (53, false), .mv (.t 3)⟩,
  ⟨some 57, some (53, false), .bin .add (.t 56) (.c (.int .i64 1))⟩,
  ⟨some 58, some (53, false), .bin .neq (.t 55) (.t 57)⟩,
  ⟨some 59, none, .pick (.t 53) (.c (.bool true)) (.t 58)⟩]
def c_impl_IsHouse_r20 : List GOp := [⟨some 47, none, .mv (.t 45)⟩,
  ⟨some 48, none, .idx 10 (.t 43) (.t 45)⟩,
  ⟨some 49, none, .lda 10 (.t 48)⟩,
  ⟨some 4, none, .alc [.int .i64 0, .int .i64 0, .int .i64 0, .str [], .sl 2 [], .sl 1 [], .int .i64 0, .str [], .int .i64 0, .int .i64 0]⟩,
  ⟨some 3, none, .asg true (.t 47)⟩,
  ⟨none, none, .sto 10 (.t 4) (.t 49)⟩]
def c_impl_IsHouse_r21 : List GOp := [⟨some 46, none, .bin .lss (.t 45) (.t 44)⟩]
def c_impl_IsHouse_b2 : CC := .seq (.reg none c_impl_IsHouse_r21 [1, 43, 44, 45, 46]) (.seq (.cnd (.t 46) (.skip) (.exit 0)) (.seq (.blk 1 (.seq (.reg none c_impl_IsHouse_r20 [1, 3, 4, 43, 44, 45]) (.seq (.reg none c_impl_IsHouse_r19 [1, 43, 44, 45, 59]) (.cnd (.t 59) (.seq (.reg none c_impl_IsHouse_r18 [2]) (.ret)) (.skip))))) (.reg none c_impl_IsHouse_r17 [1, 43, 44, 45])))
def c_impl_IsHouse_r22 : List GOp := [⟨some 42, none, .fld (.t 1) 8⟩,
  ⟨some 43, none, .ld (.t 42)⟩,
  ⟨some 44, none, .len (.t 43)⟩,
  ⟨some 45, none, .mv (.c (.int .i64 0))⟩]
def c_impl_IsHouse_r23 : List GOp := [⟨some 2, none, .asg false (.c (.bool false))⟩]
def c_impl_IsHouse_r24 : List GOp := [⟨some 13, none, .fld (.t 1) 0⟩,
  ⟨some 14, none, .ld (.t 13)⟩,
  ⟨some 15, none, .call F_impl_IsList [.t 14]⟩,
  ⟨some 16, none, .not (.t 15)⟩,
  ⟨some 17, none, .mv (.t 16)⟩,
  ⟨some 18, some (17, false), .fld (.t 1) 1⟩,
  ⟨some 19, some (17, false), .ld (.t 18)⟩,
  ⟨some 20, some (17, false), .call F_impl_IsDictionary [.t 19]⟩,
  ⟨some 21, some (17, false), .not (.t 20)⟩,
  ⟨some 22, none, .pick (.t 17) (.c (.bool true)) (.t 21)⟩,
  ⟨some 23, none, .mv (.t 22)⟩,
  ⟨some 24, some (23, false), .fld (.t 1) 2⟩,
  ⟨some 25, some (23, false), .lda 6 (.t 24)⟩,
  ⟨some 26, some (23, false), .bld [.int .i64 0, .int .i64 0, .str [], .str [], .sl 2 [], .int .i64 0] []⟩,
  ⟨some 27, some (23, false), .call F_impl_EqualDrafts [.t 25, .t 26]⟩,
  ⟨some 28, some (23, false), .not (.t 27)⟩,
  ⟨some 29, some (23, false), .mv (.t 28)⟩,
  ⟨some 30, some (29, true), .fld (.t 1) 2⟩,
  ⟨some 31, some (29, true), .lda 6 (.t 30)⟩,
  ⟨some 32, some (29, true), .call F_impl_IsDraft [.t 31]⟩,
  ⟨some 33, some (29, true), .not (.t 32)⟩,
  ⟨some 34, some (23, false), .pick (.t 29) (.t 33) (.c (.bool false))⟩,
  ⟨some 35, none, .pick (.t 23) (.c (.bool true)) (.t 34)⟩,
  ⟨some 36, none, .mv (.t 35)⟩,
  ⟨some 37, some (36, false), .fld (.t 1) 8⟩,
  ⟨some 38, some (36, false), .ld (.t 37)⟩,
  ⟨some 39, some (36, false), .len (.t 38)⟩,
  ⟨some 40, some (36, false), .bin .gtr (.t 39) (.c (.int .i64 5))⟩,
  ⟨some 41, none, .pick (.t 36) (.c (.bool true)) (.t 40)⟩]
def c_impl_IsHouse_r25 : List GOp := [⟨some 1, none, .box (.t 0)⟩,
  ⟨some 2, none, .asg false (.c (.bool false))⟩]
def c_impl_IsHouse : CC := .seq (.reg none c_impl_IsHouse_r25 [1]) (.seq (.seq (.reg none c_impl_IsHouse_r24 [1, 41]) (.cnd (.t 41) (.seq (.reg none c_impl_IsHouse_r23 [2]) (.ret)) (.skip))) (.seq (.seq (.reg none c_impl_IsHouse_r22 [1, 43, 44, 45]) (.blk 0 (.loop c_impl_IsHouse_b2 [1, 43, 44, 45]))) (.seq (.seq (.reg none c_impl_IsHouse_r16 [1, 82]) (.cnd (.t 82) (.seq (.reg none c_impl_IsHouse_r15 [2]) (.ret)) (.skip))) (.seq (.seq (.reg none c_impl_IsHouse_r14 [1, 84, 85, 86]) (.blk 2 (.loop c_impl_IsHouse_b1 [1, 84, 85, 86]))) (.seq (.seq (.reg none c_impl_IsHouse_r7 [1, 118, 119, 120]) (.blk 4 (.loop c_impl_IsHouse_b0 [1, 118, 119, 120]))) (.seq (.reg none c_impl_IsHouse_r0 [2]) (.ret)))))))
abbrev L_impl_IsHouse_0 (P : Program) (E : Env) (r : List RV) : Prop := Run P [.tmp 2] (.code c_impl_IsHouse_b0 :: .lp c_impl_IsHouse_b0 [1, 118, 119, 120] :: [.blk 4, .code (.seq (.reg none c_impl_IsHouse_r0 [2]) (.ret))]) E r
abbrev L_impl_IsHouse_1 (P : Program) (E : Env) (r : List RV) : Prop := Run P [.tmp 2] (.code c_impl_IsHouse_b1 :: .lp c_impl_IsHouse_b1 [1, 84, 85, 86] :: [.blk 2, .code (.seq (.seq (.reg none c_impl_IsHouse_r7 [1, 118, 119, 120]) (.blk 4 (.loop c_impl_IsHouse_b0 [1, 118, 119, 120]))) (.seq (.reg none c_impl_IsHouse_r0 [2]) (.ret)))]) E r
abbrev L_impl_IsHouse_2 (P : Program) (E : Env) (r : List RV) : Prop := Run P [.tmp 2] (.code c_impl_IsHouse_b2 :: .lp c_impl_IsHouse_b2 [1, 43, 44, 45] :: [.blk 0, .code (.seq (.seq (.reg none c_impl_IsHouse_r16 [1, 82]) (.cnd (.t 82) (.seq (.reg none c_impl_IsHouse_r15 [2]) (.ret)) (.skip))) (.seq (.seq (.reg none c_impl_IsHouse_r14 [1, 84, 85, 86]) (.blk 2 (.loop c_impl_IsHouse_b1 [1, 84, 85, 86]))) (.seq (.seq (.reg none c_impl_IsHouse_r7 [1, 118, 119, 120]) (.blk 4 (.loop c_impl_IsHouse_b0 [1, 118, 119, 120]))) (.seq (.reg none c_impl_IsHouse_r0 [2]) (.ret)))))]) E r
theorem k_impl_IsHouse : chkF Tryz.prog Tryz.f54 c_impl_IsHouse [.tmp 2] = true := by kernel_rfl
theorem S_impl_IsHouse {args : List AV} {r : List RV} (hs : sizeXs Tryz.prog Tryz.f54.results.toList r = true) (hn : args.length ≤ 147) (h : Run Tryz.prog [.tmp 2] [.code c_impl_IsHouse] (argEnv args 0) r) : CallsOK Tryz.prog F_impl_IsHouse args r := callsOK Tryz.func54 k_impl_IsHouse hs hn h

-- loop.example/g03003/laws.eqDraft
def c_laws_eqDraft_r0 : List GOp := [⟨some 4, none, .asg false (.c (.bool true))⟩]
def c_laws_eqDraft_r1 : List GOp := [⟨some 4, none, .asg false (.c (.bool false))⟩]
def c_laws_eqDraft_r2 : List GOp := [⟨some 22, none, .fld (.t 2) 5⟩,
  ⟨some 23, none, .ld (.t 22)⟩,
  ⟨some 24, none, .fld (.t 3) 5⟩,
  ⟨some 25, none, .ld (.t 24)⟩,
  ⟨some 26, none, .bin .neq (.t 23) (.t 25)⟩]
def c_laws_eqDraft_r3 : List GOp := [⟨some 4, none, .asg false (.c (.bool false))⟩]
def c_laws_eqDraft_r4 : List GOp := [⟨some 16, none, .fld (.t 2) 4⟩,
  ⟨some 17, none, .ld (.t 16)⟩,
  ⟨some 18, none, .fld (.t 3) 4⟩,
  ⟨some 19, none, .ld (.t 18)⟩,
  ⟨some 20, none, .call F_laws_eqClueS [.t 17, .t 19]⟩,
  ⟨some 21, none, .not (.t 20)⟩]
def c_laws_eqDraft_r5 : List GOp := [⟨some 4, none, .asg false (.c (.bool false))⟩]
def c_laws_eqDraft_r6 : List GOp := [⟨some 11, none, .fld (.t 2) 3⟩,
  ⟨some 12, none, .ld (.t 11)⟩,
  ⟨some 13, none, .fld (.t 3) 3⟩,
  ⟨some 14, none, .ld (.t 13)⟩,
  ⟨some 15, none, .bin .neq (.t 12) (.t 14)⟩]
def c_laws_eqDraft_r7 : List GOp := [⟨some 4, none, .asg false (.c (.bool false))⟩]
def c_laws_eqDraft_r8 : List GOp := [⟨some 5, none, .fld (.t 2) 0⟩,
  ⟨some 6, none, .lda 3 (.t 5)⟩,
  ⟨some 7, none, .fld (.t 3) 0⟩,
  ⟨some 8, none, .lda 3 (.t 7)⟩,
  ⟨some 9, none, .call F_laws_eqGrid [.t 6, .t 8]⟩,
  ⟨some 10, none, .not (.t 9)⟩]
def c_laws_eqDraft_r9 : List GOp := [⟨some 2, none, .box (.t 0)⟩,
  ⟨some 3, none, .box (.t 1)⟩,
  ⟨some 4, none, .asg false (.c (.bool false))⟩]
def c_laws_eqDraft : CC := .seq (.reg none c_laws_eqDraft_r9 [2, 3]) (.seq (.seq (.reg none c_laws_eqDraft_r8 [2, 3, 10]) (.cnd (.t 10) (.seq (.reg none c_laws_eqDraft_r7 [4]) (.ret)) (.skip))) (.seq (.seq (.reg none c_laws_eqDraft_r6 [2, 3, 15]) (.cnd (.t 15) (.seq (.reg none c_laws_eqDraft_r5 [4]) (.ret)) (.skip))) (.seq (.seq (.reg none c_laws_eqDraft_r4 [2, 3, 21]) (.cnd (.t 21) (.seq (.reg none c_laws_eqDraft_r3 [4]) (.ret)) (.skip))) (.seq (.seq (.reg none c_laws_eqDraft_r2 [26]) (.cnd (.t 26) (.seq (.reg none c_laws_eqDraft_r1 [4]) (.ret)) (.skip))) (.seq (.reg none c_laws_eqDraft_r0 [4]) (.ret))))))
theorem k_laws_eqDraft : chkF Tryz.prog Tryz.f55 c_laws_eqDraft [.tmp 4] = true := by kernel_rfl
theorem S_laws_eqDraft {args : List AV} {r : List RV} (hs : sizeXs Tryz.prog Tryz.f55.results.toList r = true) (hn : args.length ≤ 27) (h : Run Tryz.prog [.tmp 4] [.code c_laws_eqDraft] (argEnv args 0) r) : CallsOK Tryz.prog F_laws_eqDraft args r := callsOK Tryz.func55 k_laws_eqDraft hs hn h

-- loop.example/g03003/laws.eqIssueS
def c_laws_eqIssueS_r0 : List GOp := [⟨some 4, none, .asg false (.c (.bool true))⟩]
def c_laws_eqIssueS_r1 : List GOp := [⟨some 15, none, .mv (.t 5)⟩,
  ⟨some 16, none, .bin .add (.t 15) (.c (.int .i64 1))⟩,
  ⟨some 5, none, .asg true (.t 16)⟩]
def c_laws_eqIssueS_r2 : List GOp := [⟨some 4, none, .asg false (.c (.bool false))⟩]
def c_laws_eqIssueS_r3 : List GOp := [⟨some 17, none, .mv (.t 0)⟩,
  ⟨some 18, none, .mv (.t 5)⟩,
  ⟨some 19, none, .idx 10 (.t 17) (.t 18)⟩,
  ⟨some 20, none, .lda 10 (.t 19)⟩,
  ⟨some 21, none, .mv (.t 1)⟩,
  ⟨some 22, none, .mv (.t 5)⟩,
  ⟨some 23, none, .idx 10 (.t 21) (.t 22)⟩,
  ⟨some 24, none, .lda 10 (.t 23)⟩,
  ⟨some 25, none, .call F_laws_eqIssue [.t 20, .t 24]⟩,
  ⟨some 26, none, .not (.t 25)⟩]
def c_laws_eqIssueS_r4 : List GOp := [⟨some 11, none, .mv (.t 5)⟩,
  ⟨some 12, none, .mv (.t 0)⟩,
  ⟨some 13, none, .len (.t 12)⟩,
  ⟨some 14, none, .bin .lss (.t 11) (.t 13)⟩]
def c_laws_eqIssueS_b0 : CC := .seq (.seq (.reg none c_laws_eqIssueS_r4 [0, 1, 5, 14]) (.cnd (.t 14) (.skip) (.exit 0))) (.seq (.blk 1 (.seq (.reg (some (10, [[], [], [0, 1], [0, 1, 2], [], [], [4, 5], [4, 5, 6], [0, 1, 2, 3, 4, 5, 6, 7], [0, 1, 2, 3, 4, 5, 6, 7, 8]])) c_laws_eqIssueS_r3 [0, 1, 5, 26]) (.cnd (.t 26) (.seq (.reg none c_laws_eqIssueS_r2 [4]) (.ret)) (.skip)))) (.reg none c_laws_eqIssueS_r1 [0, 1, 5]))
def c_laws_eqIssueS_r5 : List GOp := [⟨some 5, none, .asg false (.c (.int .i64 0))⟩]
def c_laws_eqIssueS_r6 : List GOp := [⟨some 4, none, .asg false (.c (.bool false))⟩]
def c_laws_eqIssueS_r7 : List GOp := [⟨some 6, none, .mv (.t 0)⟩,
  ⟨some 7, none, .len (.t 6)⟩,
  ⟨some 8, none, .mv (.t 1)⟩,
  ⟨some 9, none, .len (.t 8)⟩,
  ⟨some 10, none, .bin .neq (.t 7) (.t 9)⟩]
def c_laws_eqIssueS_r8 : List GOp := [⟨some 4, none, .asg false (.c (.bool false))⟩]
def c_laws_eqIssueS : CC := .seq (.reg none c_laws_eqIssueS_r8 [0, 1]) (.seq (.seq (.reg none c_laws_eqIssueS_r7 [0, 1, 10]) (.cnd (.t 10) (.seq (.reg none c_laws_eqIssueS_r6 [4]) (.ret)) (.skip))) (.seq (.seq (.reg none c_laws_eqIssueS_r5 [0, 1, 5]) (.blk 0 (.loop c_laws_eqIssueS_b0 [0, 1, 5]))) (.seq (.reg none c_laws_eqIssueS_r0 [4]) (.ret))))
abbrev L_laws_eqIssueS_0 (P : Program) (E : Env) (r : List RV) : Prop := Run P [.tmp 4] (.code c_laws_eqIssueS_b0 :: .lp c_laws_eqIssueS_b0 [0, 1, 5] :: [.blk 0, .code (.seq (.reg none c_laws_eqIssueS_r0 [4]) (.ret))]) E r
theorem k_laws_eqIssueS : chkF Tryz.prog Tryz.f56 c_laws_eqIssueS [.tmp 4] = true := by kernel_rfl
theorem S_laws_eqIssueS {args : List AV} {r : List RV} (hs : sizeXs Tryz.prog Tryz.f56.results.toList r = true) (hn : args.length ≤ 27) (h : Run Tryz.prog [.tmp 4] [.code c_laws_eqIssueS] (argEnv args 0) r) : CallsOK Tryz.prog F_laws_eqIssueS args r := callsOK Tryz.func56 k_laws_eqIssueS hs hn h

-- loop.example/g03003/laws.eqUsedS
def c_laws_eqUsedS_r0 : List GOp := [⟨some 4, none, .asg false (.c (.bool true))⟩]
def c_laws_eqUsedS_r1 : List GOp := [⟨some 15, none, .mv (.t 5)⟩,
  ⟨some 16, none, .bin .add (.t 15) (.c (.int .i64 1))⟩,
  ⟨some 5, none, .asg true (.t 16)⟩]
def c_laws_eqUsedS_r2 : List GOp := [⟨some 4, none, .asg false (.c (.bool false))⟩]
def c_laws_eqUsedS_r3 : List GOp := [⟨some 17, none, .mv (.t 0)⟩,
  ⟨some 18, none, .mv (.t 5)⟩,
  ⟨some 19, none, .idx 2 (.t 17) (.t 18)⟩,
  ⟨some 20, none, .lda 2 (.t 19)⟩,
  ⟨some 21, none, .mv (.t 1)⟩,
  ⟨some 22, none, .mv (.t 5)⟩,
  ⟨some 23, none, .idx 2 (.t 21) (.t 22)⟩,
  ⟨some 24, none, .lda 2 (.t 23)⟩,
  ⟨some 25, none, .call F_laws_eqUsed [.t 20, .t 24]⟩,
  ⟨some 26, none, .not (.t 25)⟩]
def c_laws_eqUsedS_r4 : List GOp := [⟨some 11, none, .mv (.t 5)⟩,
  ⟨some 12, none, .mv (.t 0)⟩,
  ⟨some 13, none, .len (.t 12)⟩,
  ⟨some 14, none, .bin .lss (.t 11) (.t 13)⟩]
def c_laws_eqUsedS_b0 : CC := .seq (.seq (.reg none c_laws_eqUsedS_r4 [0, 1, 5, 14]) (.cnd (.t 14) (.skip) (.exit 0))) (.seq (.blk 1 (.seq (.reg (some (10, [[], [], [0, 1], [0, 1, 2], [], [], [4, 5], [4, 5, 6], [0, 1, 2, 3, 4, 5, 6, 7], [0, 1, 2, 3, 4, 5, 6, 7, 8]])) c_laws_eqUsedS_r3 [0, 1, 5, 26]) (.cnd (.t 26) (.seq (.reg none c_laws_eqUsedS_r2 [4]) (.ret)) (.skip)))) (.reg none c_laws_eqUsedS_r1 [0, 1, 5]))
def c_laws_eqUsedS_r5 : List GOp := [⟨some 5, none, .asg false (.c (.int .i64 0))⟩]
def c_laws_eqUsedS_r6 : List GOp := [⟨some 4, none, .asg false (.c (.bool false))⟩]
def c_laws_eqUsedS_r7 : List GOp := [⟨some 6, none, .mv (.t 0)⟩,
  ⟨some 7, none, .len (.t 6)⟩,
  ⟨some 8, none, .mv (.t 1)⟩,
  ⟨some 9, none, .len (.t 8)⟩,
  ⟨some 10, none, .bin .neq (.t 7) (.t 9)⟩]
def c_laws_eqUsedS_r8 : List GOp := [⟨some 4, none, .asg false (.c (.bool false))⟩]
def c_laws_eqUsedS : CC := .seq (.reg none c_laws_eqUsedS_r8 [0, 1]) (.seq (.seq (.reg none c_laws_eqUsedS_r7 [0, 1, 10]) (.cnd (.t 10) (.seq (.reg none c_laws_eqUsedS_r6 [4]) (.ret)) (.skip))) (.seq (.seq (.reg none c_laws_eqUsedS_r5 [0, 1, 5]) (.blk 0 (.loop c_laws_eqUsedS_b0 [0, 1, 5]))) (.seq (.reg none c_laws_eqUsedS_r0 [4]) (.ret))))
abbrev L_laws_eqUsedS_0 (P : Program) (E : Env) (r : List RV) : Prop := Run P [.tmp 4] (.code c_laws_eqUsedS_b0 :: .lp c_laws_eqUsedS_b0 [0, 1, 5] :: [.blk 0, .code (.seq (.reg none c_laws_eqUsedS_r0 [4]) (.ret))]) E r
theorem k_laws_eqUsedS : chkF Tryz.prog Tryz.f57 c_laws_eqUsedS [.tmp 4] = true := by kernel_rfl
theorem S_laws_eqUsedS {args : List AV} {r : List RV} (hs : sizeXs Tryz.prog Tryz.f57.results.toList r = true) (hn : args.length ≤ 27) (h : Run Tryz.prog [.tmp 4] [.code c_laws_eqUsedS] (argEnv args 0) r) : CallsOK Tryz.prog F_laws_eqUsedS args r := callsOK Tryz.func57 k_laws_eqUsedS hs hn h

-- loop.example/g03003/laws.eqCorrectionS
def c_laws_eqCorrectionS_r0 : List GOp := [⟨some 4, none, .asg false (.c (.bool true))⟩]
def c_laws_eqCorrectionS_r1 : List GOp := [⟨some 15, none, .mv (.t 5)⟩,
  ⟨some 16, none, .bin .add (.t 15) (.c (.int .i64 1))⟩,
  ⟨some 5, none, .asg true (.t 16)⟩]
def c_laws_eqCorrectionS_r2 : List GOp := [⟨some 4, none, .asg false (.c (.bool false))⟩]
def c_laws_eqCorrectionS_r3 : List GOp := [⟨some 17, none, .mv (.t 0)⟩,
  ⟨some 18, none, .mv (.t 5)⟩,
  ⟨some 19, none, .idx 5 (.t 17) (.t 18)⟩,
  ⟨some 20, none, .lda 5 (.t 19)⟩,
  ⟨some 21, none, .mv (.t 1)⟩,
  ⟨some 22, none, .mv (.t 5)⟩,
  ⟨some 23, none, .idx 5 (.t 21) (.t 22)⟩,
  ⟨some 24, none, .lda 5 (.t 23)⟩,
  ⟨some 25, none, .call F_laws_eqCorrection [.t 20, .t 24]⟩,
  ⟨some 26, none, .not (.t 25)⟩]
def c_laws_eqCorrectionS_r4 : List GOp := [⟨some 11, none, .mv (.t 5)⟩,
  ⟨some 12, none, .mv (.t 0)⟩,
  ⟨some 13, none, .len (.t 12)⟩,
  ⟨some 14, none, .bin .lss (.t 11) (.t 13)⟩]
def c_laws_eqCorrectionS_b0 : CC := .seq (.seq (.reg none c_laws_eqCorrectionS_r4 [0, 1, 5, 14]) (.cnd (.t 14) (.skip) (.exit 0))) (.seq (.blk 1 (.seq (.reg (some (10, [[], [], [0, 1], [0, 1, 2], [], [], [4, 5], [4, 5, 6], [0, 1, 2, 3, 4, 5, 6, 7], [0, 1, 2, 3, 4, 5, 6, 7, 8]])) c_laws_eqCorrectionS_r3 [0, 1, 5, 26]) (.cnd (.t 26) (.seq (.reg none c_laws_eqCorrectionS_r2 [4]) (.ret)) (.skip)))) (.reg none c_laws_eqCorrectionS_r1 [0, 1, 5]))
def c_laws_eqCorrectionS_r5 : List GOp := [⟨some 5, none, .asg false (.c (.int .i64 0))⟩]
def c_laws_eqCorrectionS_r6 : List GOp := [⟨some 4, none, .asg false (.c (.bool false))⟩]
def c_laws_eqCorrectionS_r7 : List GOp := [⟨some 6, none, .mv (.t 0)⟩,
  ⟨some 7, none, .len (.t 6)⟩,
  ⟨some 8, none, .mv (.t 1)⟩,
  ⟨some 9, none, .len (.t 8)⟩,
  ⟨some 10, none, .bin .neq (.t 7) (.t 9)⟩]
def c_laws_eqCorrectionS_r8 : List GOp := [⟨some 4, none, .asg false (.c (.bool false))⟩]
def c_laws_eqCorrectionS : CC := .seq (.reg none c_laws_eqCorrectionS_r8 [0, 1]) (.seq (.seq (.reg none c_laws_eqCorrectionS_r7 [0, 1, 10]) (.cnd (.t 10) (.seq (.reg none c_laws_eqCorrectionS_r6 [4]) (.ret)) (.skip))) (.seq (.seq (.reg none c_laws_eqCorrectionS_r5 [0, 1, 5]) (.blk 0 (.loop c_laws_eqCorrectionS_b0 [0, 1, 5]))) (.seq (.reg none c_laws_eqCorrectionS_r0 [4]) (.ret))))
abbrev L_laws_eqCorrectionS_0 (P : Program) (E : Env) (r : List RV) : Prop := Run P [.tmp 4] (.code c_laws_eqCorrectionS_b0 :: .lp c_laws_eqCorrectionS_b0 [0, 1, 5] :: [.blk 0, .code (.seq (.reg none c_laws_eqCorrectionS_r0 [4]) (.ret))]) E r
theorem k_laws_eqCorrectionS : chkF Tryz.prog Tryz.f58 c_laws_eqCorrectionS [.tmp 4] = true := by kernel_rfl
theorem S_laws_eqCorrectionS {args : List AV} {r : List RV} (hs : sizeXs Tryz.prog Tryz.f58.results.toList r = true) (hn : args.length ≤ 27) (h : Run Tryz.prog [.tmp 4] [.code c_laws_eqCorrectionS] (argEnv args 0) r) : CallsOK Tryz.prog F_laws_eqCorrectionS args r := callsOK Tryz.func58 k_laws_eqCorrectionS hs hn h

-- loop.example/g03003/laws.eqEntryS
def c_laws_eqEntryS_r0 : List GOp := [⟨some 4, none, .asg false (.c (.bool true))⟩]
def c_laws_eqEntryS_r1 : List GOp := [⟨some 15, none, .mv (.t 5)⟩,
  ⟨some 16, none, .bin .add (.t 15) (.c (.int .i64 1))⟩,
  ⟨some 5, none, .asg true (.t 16)⟩]
def c_laws_eqEntryS_r2 : List GOp := [⟨some 4, none, .asg false (.c (.bool false))⟩]
def c_laws_eqEntryS_r3 : List GOp := [⟨some 17, none, .mv (.t 0)⟩,
  ⟨some 18, none, .mv (.t 5)⟩,
  ⟨some 19, none, .idx 4 (.t 17) (.t 18)⟩,
  ⟨some 20, none, .lda 4 (.t 19)⟩,
  ⟨some 21, none, .mv (.t 1)⟩,
  ⟨some 22, none, .mv (.t 5)⟩,
  ⟨some 23, none, .idx 4 (.t 21) (.t 22)⟩,
  ⟨some 24, none, .lda 4 (.t 23)⟩,
  ⟨some 25, none, .call F_laws_eqEntry [.t 20, .t 24]⟩,
  ⟨some 26, none, .not (.t 25)⟩]
def c_laws_eqEntryS_r4 : List GOp := [⟨some 11, none, .mv (.t 5)⟩,
  ⟨some 12, none, .mv (.t 0)⟩,
  ⟨some 13, none, .len (.t 12)⟩,
  ⟨some 14, none, .bin .lss (.t 11) (.t 13)⟩]
def c_laws_eqEntryS_b0 : CC := .seq (.seq (.reg none c_laws_eqEntryS_r4 [0, 1, 5, 14]) (.cnd (.t 14) (.skip) (.exit 0))) (.seq (.blk 1 (.seq (.reg (some (10, [[], [], [0, 1], [0, 1, 2], [], [], [4, 5], [4, 5, 6], [0, 1, 2, 3, 4, 5, 6, 7], [0, 1, 2, 3, 4, 5, 6, 7, 8]])) c_laws_eqEntryS_r3 [0, 1, 5, 26]) (.cnd (.t 26) (.seq (.reg none c_laws_eqEntryS_r2 [4]) (.ret)) (.skip)))) (.reg none c_laws_eqEntryS_r1 [0, 1, 5]))
def c_laws_eqEntryS_r5 : List GOp := [⟨some 5, none, .asg false (.c (.int .i64 0))⟩]
def c_laws_eqEntryS_r6 : List GOp := [⟨some 4, none, .asg false (.c (.bool false))⟩]
def c_laws_eqEntryS_r7 : List GOp := [⟨some 6, none, .mv (.t 0)⟩,
  ⟨some 7, none, .len (.t 6)⟩,
  ⟨some 8, none, .mv (.t 1)⟩,
  ⟨some 9, none, .len (.t 8)⟩,
  ⟨some 10, none, .bin .neq (.t 7) (.t 9)⟩]
def c_laws_eqEntryS_r8 : List GOp := [⟨some 4, none, .asg false (.c (.bool false))⟩]
def c_laws_eqEntryS : CC := .seq (.reg none c_laws_eqEntryS_r8 [0, 1]) (.seq (.seq (.reg none c_laws_eqEntryS_r7 [0, 1, 10]) (.cnd (.t 10) (.seq (.reg none c_laws_eqEntryS_r6 [4]) (.ret)) (.skip))) (.seq (.seq (.reg none c_laws_eqEntryS_r5 [0, 1, 5]) (.blk 0 (.loop c_laws_eqEntryS_b0 [0, 1, 5]))) (.seq (.reg none c_laws_eqEntryS_r0 [4]) (.ret))))
abbrev L_laws_eqEntryS_0 (P : Program) (E : Env) (r : List RV) : Prop := Run P [.tmp 4] (.code c_laws_eqEntryS_b0 :: .lp c_laws_eqEntryS_b0 [0, 1, 5] :: [.blk 0, .code (.seq (.reg none c_laws_eqEntryS_r0 [4]) (.ret))]) E r
theorem k_laws_eqEntryS : chkF Tryz.prog Tryz.f59 c_laws_eqEntryS [.tmp 4] = true := by kernel_rfl
theorem S_laws_eqEntryS {args : List AV} {r : List RV} (hs : sizeXs Tryz.prog Tryz.f59.results.toList r = true) (hn : args.length ≤ 27) (h : Run Tryz.prog [.tmp 4] [.code c_laws_eqEntryS] (argEnv args 0) r) : CallsOK Tryz.prog F_laws_eqEntryS args r := callsOK Tryz.func59 k_laws_eqEntryS hs hn h

-- loop.example/g03003/laws.eqListed
def c_laws_eqListed_r0 : List GOp := [⟨some 4, none, .asg false (.c (.bool true))⟩]
def c_laws_eqListed_r1 : List GOp := [⟨some 4, none, .asg false (.c (.bool false))⟩]
def c_laws_eqListed_r2 : List GOp := [⟨some 20, none, .fld (.t 2) 3⟩,
  ⟨some 21, none, .ld (.t 20)⟩,
  ⟨some 22, none, .fld (.t 3) 3⟩,
  ⟨some 23, none, .ld (.t 22)⟩,
  ⟨some 24, none, .bin .neq (.t 21) (.t 23)⟩]
def c_laws_eqListed_r3 : List GOp := [⟨some 4, none, .asg false (.c (.bool false))⟩]
def c_laws_eqListed_r4 : List GOp := [⟨some 15, none, .fld (.t 2) 2⟩,
  ⟨some 16, none, .ld (.t 15)⟩,
  ⟨some 17, none, .fld (.t 3) 2⟩,
  ⟨some 18, none, .ld (.t 17)⟩,
  ⟨some 19, none, .bin .neq (.t 16) (.t 18)⟩]
def c_laws_eqListed_r5 : List GOp := [⟨some 4, none, .asg false (.c (.bool false))⟩]
def c_laws_eqListed_r6 : List GOp := [⟨some 10, none, .fld (.t 2) 1⟩,
  ⟨some 11, none, .ld (.t 10)⟩,
  ⟨some 12, none, .fld (.t 3) 1⟩,
  ⟨some 13, none, .ld (.t 12)⟩,
  ⟨some 14, none, .bin .neq (.t 11) (.t 13)⟩]
def c_laws_eqListed_r7 : List GOp := [⟨some 4, none, .asg false (.c (.bool false))⟩]
def c_laws_eqListed_r8 : List GOp := [⟨some 5, none, .fld (.t 2) 0⟩,
  ⟨some 6, none, .ld (.t 5)⟩,
  ⟨some 7, none, .fld (.t 3) 0⟩,
  ⟨some 8, none, .ld (.t 7)⟩,
  ⟨some 9, none, .bin .neq (.t 6) (.t 8)⟩]
def c_laws_eqListed_r9 : List GOp := [⟨some 2, none, .box (.t 0)⟩,
  ⟨some 3, none, .box (.t 1)⟩,
  ⟨some 4, none, .asg false (.c (.bool false))⟩]
def c_laws_eqListed : CC := .seq (.reg none c_laws_eqListed_r9 [2, 3]) (.seq (.seq (.reg none c_laws_eqListed_r8 [2, 3, 9]) (.cnd (.t 9) (.seq (.reg none c_laws_eqListed_r7 [4]) (.ret)) (.skip))) (.seq (.seq (.reg none c_laws_eqListed_r6 [2, 3, 14]) (.cnd (.t 14) (.seq (.reg none c_laws_eqListed_r5 [4]) (.ret)) (.skip))) (.seq (.seq (.reg none c_laws_eqListed_r4 [2, 3, 19]) (.cnd (.t 19) (.seq (.reg none c_laws_eqListed_r3 [4]) (.ret)) (.skip))) (.seq (.seq (.reg none c_laws_eqListed_r2 [24]) (.cnd (.t 24) (.seq (.reg none c_laws_eqListed_r1 [4]) (.ret)) (.skip))) (.seq (.reg none c_laws_eqListed_r0 [4]) (.ret))))))
theorem k_laws_eqListed : chkF Tryz.prog Tryz.f60 c_laws_eqListed [.tmp 4] = true := by kernel_rfl
theorem S_laws_eqListed {args : List AV} {r : List RV} (hs : sizeXs Tryz.prog Tryz.f60.results.toList r = true) (hn : args.length ≤ 25) (h : Run Tryz.prog [.tmp 4] [.code c_laws_eqListed] (argEnv args 0) r) : CallsOK Tryz.prog F_laws_eqListed args r := callsOK Tryz.func60 k_laws_eqListed hs hn h

-- loop.example/g03003/laws.eqMeaning
def c_laws_eqMeaning_r0 : List GOp := [⟨some 4, none, .asg false (.c (.bool true))⟩]
def c_laws_eqMeaning_r1 : List GOp := [⟨some 4, none, .asg false (.c (.bool false))⟩]
def c_laws_eqMeaning_r2 : List GOp := [⟨some 10, none, .fld (.t 2) 1⟩,
  ⟨some 11, none, .ld (.t 10)⟩,
  ⟨some 12, none, .fld (.t 3) 1⟩,
  ⟨some 13, none, .ld (.t 12)⟩,
  ⟨some 14, none, .bin .neq (.t 11) (.t 13)⟩]
def c_laws_eqMeaning_r3 : List GOp := [⟨some 4, none, .asg false (.c (.bool false))⟩]
def c_laws_eqMeaning_r4 : List GOp := [⟨some 5, none, .fld (.t 2) 0⟩,
  ⟨some 6, none, .ld (.t 5)⟩,
  ⟨some 7, none, .fld (.t 3) 0⟩,
  ⟨some 8, none, .ld (.t 7)⟩,
  ⟨some 9, none, .bin .neq (.t 6) (.t 8)⟩]
def c_laws_eqMeaning_r5 : List GOp := [⟨some 2, none, .box (.t 0)⟩,
  ⟨some 3, none, .box (.t 1)⟩,
  ⟨some 4, none, .asg false (.c (.bool false))⟩]
def c_laws_eqMeaning : CC := .seq (.reg none c_laws_eqMeaning_r5 [2, 3]) (.seq (.seq (.reg none c_laws_eqMeaning_r4 [2, 3, 9]) (.cnd (.t 9) (.seq (.reg none c_laws_eqMeaning_r3 [4]) (.ret)) (.skip))) (.seq (.seq (.reg none c_laws_eqMeaning_r2 [14]) (.cnd (.t 14) (.seq (.reg none c_laws_eqMeaning_r1 [4]) (.ret)) (.skip))) (.seq (.reg none c_laws_eqMeaning_r0 [4]) (.ret))))
theorem k_laws_eqMeaning : chkF Tryz.prog Tryz.f61 c_laws_eqMeaning [.tmp 4] = true := by kernel_rfl
theorem S_laws_eqMeaning {args : List AV} {r : List RV} (hs : sizeXs Tryz.prog Tryz.f61.results.toList r = true) (hn : args.length ≤ 15) (h : Run Tryz.prog [.tmp 4] [.code c_laws_eqMeaning] (argEnv args 0) r) : CallsOK Tryz.prog F_laws_eqMeaning args r := callsOK Tryz.func61 k_laws_eqMeaning hs hn h

-- loop.example/g03003/laws.markText
def c_laws_markText_r0 : List GOp := [⟨some 18, none, .mv (.t 3)⟩,
  ⟨some 19, none, .bin .add (.c (.str [109])) (.t 18)⟩,
  ⟨some 2, none, .asg true (.t 19)⟩]
def c_laws_markText_r1 : List GOp := [⟨some 16, none, .mv (.t 0)⟩,
  ⟨some 17, none, .bin .quo (.t 16) (.c (.int .i64 10))⟩,
  ⟨some 0, none, .asg true (.t 17)⟩]
def c_laws_markText_r2 : List GOp := [⟨some 8, none, .mv (.t 0)⟩,
  ⟨some 9, none, .bin .rem (.t 8) (.c (.int .i64 10))⟩,
  ⟨some 10, none, .bin .add (.c (.int .i64 48)) (.t 9)⟩,
  ⟨some 11, none, .cvi .u8 (.t 10)⟩,
  ⟨some 12, none, .bsl 1 [.t 11]⟩,
  ⟨some 13, none, .b2s (.t 12)⟩,
  ⟨some 14, none, .mv (.t 3)⟩,
  ⟨some 15, none, .bin .add (.t 13) (.t 14)⟩,
  ⟨some 3, none, .asg true (.t 15)⟩]
def c_laws_markText_r3 : List GOp := [⟨some 6, none, .mv (.t 0)⟩,
  ⟨some 7, none, .bin .gtr (.t 6) (.c (.int .i64 0))⟩]
def c_laws_markText_b0 : CC := .seq (.seq (.reg none c_laws_markText_r3 [0, 3, 7, 1000, 1001, 1002, 1003, 1004, 1005, 1006, 1007, 1008, 1009]) (.cnd (.t 7) (.skip) (.exit 0))) (.blk 1 (.seq (.reg none c_laws_markText_r2 [0, 3, 1000, 1001, 1002, 1003, 1004, 1005, 1006, 1007, 1008, 1009]) (.reg none c_laws_markText_r1 [0, 3, 1000, 1001, 1002, 1003, 1004, 1005, 1006, 1007, 1008, 1009])))
def c_laws_markText_r4 : List GOp := [⟨some 3, none, .asg false (.c (.str []))⟩]
def c_laws_markText_r5 : List GOp := [⟨some 2, none, .asg false (.c (.str [109, 48]))⟩]
def c_laws_markText_r6 : List GOp := [⟨some 4, none, .mv (.t 0)⟩,
  ⟨some 5, none, .bin .leq (.t 4) (.c (.int .i64 0))⟩]
def c_laws_markText_r7 : List GOp := [⟨some 2, none, .asg false (.c (.str []))⟩]
def c_laws_markText : CC := .seq (.reg none c_laws_markText_r7 [0, 1000, 1001, 1002, 1003, 1004, 1005, 1006, 1007, 1008, 1009]) (.seq (.seq (.reg none c_laws_markText_r6 [0, 5, 1000, 1001, 1002, 1003, 1004, 1005, 1006, 1007, 1008, 1009]) (.cnd (.t 5) (.seq (.reg none c_laws_markText_r5 [2, 1000, 1001, 1002, 1003, 1004, 1005, 1006, 1007, 1008, 1009]) (.ret)) (.skip))) (.seq (.reg none c_laws_markText_r4 [0, 3, 1000, 1001, 1002, 1003, 1004, 1005, 1006, 1007, 1008, 1009]) (.seq (.blk 0 (.loop c_laws_markText_b0 [0, 3, 1000, 1001, 1002, 1003, 1004, 1005, 1006, 1007, 1008, 1009])) (.seq (.reg none c_laws_markText_r0 [2, 1000, 1001, 1002, 1003, 1004, 1005, 1006, 1007, 1008, 1009]) (.ret)))))
abbrev L_laws_markText_0 (P : Program) (Q : Env → Prop) (E : Env) : Prop := RunQ P Q (.code c_laws_markText_b0 :: .lp c_laws_markText_b0 [0, 3, 1000, 1001, 1002, 1003, 1004, 1005, 1006, 1007, 1008, 1009] :: [.blk 0, .code (.seq (.reg none c_laws_markText_r0 [2, 1000, 1001, 1002, 1003, 1004, 1005, 1006, 1007, 1008, 1009]) (.ret))]) E
theorem k_laws_markText : chkF Tryz.prog Tryz.f62 c_laws_markText [.tmp 2] = true := by kernel_rfl
theorem S_laws_markText {args : List AV} {r : List RV} (hs : sizeXs Tryz.prog Tryz.f62.results.toList r = true) (hn : args.length ≤ 20) (h : Run Tryz.prog [.tmp 2] [.code c_laws_markText] (argEnv args 0) r) : CallsOK Tryz.prog F_laws_markText args r := callsOK Tryz.func62 k_laws_markText hs hn h
theorem SH_laws_markText {args : (Nat → Value) → List AV} {res : (Nat → Value) → List RV} {hin hout : List HT} (ni no : List Nat) (hs : ∀ v, sizeXs Tryz.prog Tryz.f62.results.toList (res v) = true) (hn : ∀ v, (args v).length ≤ 20 ∧ ∀ n ∈ ni, (args v).length ≤ n) (hni : ni.Nodup) (hno : no.Nodup) (h : ∀ u : Gh, RunQ Tryz.prog (fun E => ∃ u' : Gh, resP E [.tmp 2] = some (res u'.1) ∧ (∀ i, i < hin.length → u'.1 i = u.1 i) ∧ GetH E (fun i => decide (hin.length ≤ i)) u' no hout 0) [.code c_laws_markText] (envH (fun _ => false) u ni hin 0 ++ argEnv (args u.1) 0)) : CallsH Tryz.prog F_laws_markText hin hout args res := callsH_of_run ni no Tryz.func62 k_laws_markText hs hn hni hno h

-- loop.example/g03003/laws.markDraft
def c_laws_markDraft_r0 : List GOp := [⟨some 9, none, .mv (.t 1)⟩,
  ⟨some 4, none, .asg true (.t 9)⟩]
def c_laws_markDraft_r1 : List GOp := [⟨some 5, none, .fld (.t 2) 4⟩,
  ⟨some 6, none, .ld (.t 5)⟩,
  ⟨some 7, none, .mv (.t 1)⟩,
  ⟨some 8, none, .call F_laws_markClueS [.t 6, .t 7]⟩,
  ⟨some 1, none, .asg true (.t 8)⟩]
def c_laws_markDraft_r2 : List GOp := [⟨some 2, none, .box (.t 0)⟩,
  ⟨some 4, none, .asg false (.c (.int .i64 0))⟩]
def c_laws_markDraft : CC := .seq (.reg none c_laws_markDraft_r2 [1, 2, 1000, 1001, 1002, 1003, 1004, 1005, 1006, 1007, 1008, 1009]) (.seq (.reg none c_laws_markDraft_r1 [1, 1000, 1001, 1002, 1003, 1004, 1005, 1006, 1007, 1008, 1009]) (.seq (.reg none c_laws_markDraft_r0 [4, 1000, 1001, 1002, 1003, 1004, 1005, 1006, 1007, 1008, 1009]) (.ret)))
theorem k_laws_markDraft : chkF Tryz.prog Tryz.f63 c_laws_markDraft [.tmp 4] = true := by kernel_rfl
theorem S_laws_markDraft {args : List AV} {r : List RV} (hs : sizeXs Tryz.prog Tryz.f63.results.toList r = true) (hn : args.length ≤ 10) (h : Run Tryz.prog [.tmp 4] [.code c_laws_markDraft] (argEnv args 0) r) : CallsOK Tryz.prog F_laws_markDraft args r := callsOK Tryz.func63 k_laws_markDraft hs hn h
theorem SH_laws_markDraft {args : (Nat → Value) → List AV} {res : (Nat → Value) → List RV} {hin hout : List HT} (ni no : List Nat) (hs : ∀ v, sizeXs Tryz.prog Tryz.f63.results.toList (res v) = true) (hn : ∀ v, (args v).length ≤ 10 ∧ ∀ n ∈ ni, (args v).length ≤ n) (hni : ni.Nodup) (hno : no.Nodup) (h : ∀ u : Gh, RunQ Tryz.prog (fun E => ∃ u' : Gh, resP E [.tmp 4] = some (res u'.1) ∧ (∀ i, i < hin.length → u'.1 i = u.1 i) ∧ GetH E (fun i => decide (hin.length ≤ i)) u' no hout 0) [.code c_laws_markDraft] (envH (fun _ => false) u ni hin 0 ++ argEnv (args u.1) 0)) : CallsH Tryz.prog F_laws_markDraft hin hout args res := callsH_of_run ni no Tryz.func63 k_laws_markDraft hs hn hni hno h

-- loop.example/g03003/laws.markIssueS
def c_laws_markIssueS_r0 : List GOp := [⟨some 93, none, .mv (.t 1)⟩,
  ⟨some 4, none, .asg true (.t 93)⟩]
def c_laws_markIssueS_r1 : List GOp := [⟨some 10, none, .mv (.t 5)⟩,
  ⟨some 11, none, .bin .add (.t 10) (.c (.int .i64 1))⟩,
  ⟨some 5, none, .asg true (.t 11)⟩]
def c_laws_markIssueS_r2 : List GOp := [⟨some 91, none, .mv (.t 1)⟩,
  ⟨some 92, none, .bin .add (.t 91) (.c (.int .i64 1))⟩,
  ⟨some 1, none, .asg true (.t 92)⟩]
def c_laws_markIssueS_r3 : List GOp := [⟨some 86, none, .mv (.t 0)⟩,
  ⟨some 87, none, .mv (.t 5)⟩,
  ⟨some 88, none, .mv (.t 1)⟩,
  ⟨some 89, none, .idx 10 (.t 86) (.t 87)⟩,
  ⟨some 90, none, .fld (.t 89) 9⟩,
  ⟨none, none, .sto 1 (.t 90) (.t 88)⟩]
def c_laws_markIssueS_r4 : List GOp := [⟨some 84, none, .mv (.t 1)⟩,
  ⟨some 85, none, .bin .add (.t 84) (.c (.int .i64 1))⟩,
  ⟨some 1, none, .asg true (.t 85)⟩]
def c_laws_markIssueS_r5 : List GOp := [⟨some 79, none, .mv (.t 0)⟩,
  ⟨some 80, none, .mv (.t 5)⟩,
  ⟨some 81, none, .mv (.t 1)⟩,
  ⟨some 82, none, .idx 10 (.t 79) (.t 80)⟩,
  ⟨some 83, none, .fld (.t 82) 8⟩,
  ⟨none, none, .sto 1 (.t 83) (.t 81)⟩]
def c_laws_markIssueS_r6 : List GOp := [⟨some 77, none, .mv (.t 1)⟩,
  ⟨some 78, none, .bin .add (.t 77) (.c (.int .i64 1))⟩,
  ⟨some 1, none, .asg true (.t 78)⟩]
def c_laws_markIssueS_r7 : List GOp := [⟨some 71, none, .mv (.t 0)⟩,
  ⟨some 72, none, .mv (.t 5)⟩,
  ⟨some 73, none, .mv (.t 1)⟩,
  ⟨some 74, none, .call F_laws_markText [.t 73]⟩,
  ⟨some 75, none, .idx 10 (.t 71) (.t 72)⟩,
  ⟨some 76, none, .fld (.t 75) 7⟩,
  ⟨none, none, .sto 1 (.t 76) (.t 74)⟩]
def c_laws_markIssueS_r8 : List GOp := [⟨some 69, none, .mv (.t 1)⟩,
  ⟨some 70, none, .bin .add (.t 69) (.c (.int .i64 1))⟩,
  ⟨some 1, none, .asg true (.t 70)⟩]
def c_laws_markIssueS_r9 : List GOp := [⟨some 63, none, .mv (.t 0)⟩,
  ⟨some 64, none, .mv (.t 5)⟩,
  ⟨some 65, none, .mv (.t 1)⟩,
  ⟨some 66, none, .idx 10 (.t 63) (.t 64)⟩,
  ⟨some 67, none, .fld (.t 66) 1⟩,
  ⟨some 68, none, .fld (.t 67) 5⟩,
  ⟨none, none, .sto 1 (.t 68) (.t 65)⟩]
def c_laws_markIssueS_r10 : List GOp := [⟨some 55, none, .mv (.t 0)⟩,
  ⟨some 56, none, .mv (.t 5)⟩,
  ⟨some 57, none, .idx 10 (.t 55) (.t 56)⟩,
  ⟨some 58, none, .fld (.t 57) 1⟩,
  ⟨some 59, none, .fld (.t 58) 4⟩,
  ⟨some 60, none, .ld (.t 59)⟩,
  ⟨some 61, none, .mv (.t 1)⟩,
  ⟨some 62, none, .call F_laws_markIntS [.t 60, .t 61]⟩,
  ⟨some 1, none, .asg true (.t 62)⟩]
def c_laws_markIssueS_r11 : List GOp := [⟨some 47, none, .mv (.t 0)⟩,
  ⟨some 48, none, .mv (.t 5)⟩,
  ⟨some 49, none, .idx 10 (.t 47) (.t 48)⟩,
  ⟨some 50, none, .fld (.t 49) 1⟩,
  ⟨some 51, none, .fld (.t 50) 3⟩,
  ⟨some 52, none, .ld (.t 51)⟩,
  ⟨some 53, none, .mv (.t 1)⟩,
  ⟨some 54, none, .call F_laws_markClueS [.t 52, .t 53]⟩,
  ⟨some 1, none, .asg true (.t 54)⟩]
def c_laws_markIssueS_r12 : List GOp := [⟨some 45, none, .mv (.t 1)⟩,
  ⟨some 46, none, .bin .add (.t 45) (.c (.int .i64 1))⟩,
  ⟨some 1, none, .asg true (.t 46)⟩]
def c_laws_markIssueS_r13 : List GOp := [⟨some 37, none, .mv (.t 0)⟩,
  ⟨some 38, none, .mv (.t 5)⟩,
  ⟨some 39, none, .mv (.t 1)⟩,
  ⟨some 40, none, .call F_laws_markText [.t 39]⟩,
  ⟨some 41, none, .idx 10 (.t 37) (.t 38)⟩,
  ⟨some 42, none, .fld (.t 41) 1⟩,
  ⟨some 43, none, .fld (.t 42) 0⟩,
  ⟨some 44, none, .fld (.t 43) 2⟩,
  ⟨none, none, .sto 1 (.t 44) (.t 40)⟩]
def c_laws_markIssueS_r14 : List GOp := [⟨some 35, none, .mv (.t 1)⟩,
  ⟨some 36, none, .bin .add (.t 35) (.c (.int .i64 1))⟩,
  ⟨some 1, none, .asg true (.t 36)⟩]
def c_laws_markIssueS_r15 : List GOp := [⟨some 28, none, .mv (.t 0)⟩,
  ⟨some 29, none, .mv (.t 5)⟩,
  ⟨some 30, none, .mv (.t 1)⟩,
  ⟨some 31, none, .idx 10 (.t 28) (.t 29)⟩,
  ⟨some 32, none, .fld (.t 31) 1⟩,
  ⟨some 33, none, .fld (.t 32) 0⟩,
  ⟨some 34, none, .fld (.t 33) 1⟩,
  ⟨none, none, .sto 1 (.t 34) (.t 30)⟩]
def c_laws_markIssueS_r16 : List GOp := [⟨some 26, none, .mv (.t 1)⟩,
  ⟨some 27, none, .bin .add (.t 26) (.c (.int .i64 1))⟩,
  ⟨some 1, none, .asg true (.t 27)⟩]
def c_laws_markIssueS_r17 : List GOp := [⟨some 19, none, .mv (.t 0)⟩,
  ⟨some 20, none, .mv (.t 5)⟩,
  ⟨some 21, none, .mv (.t 1)⟩,
  ⟨some 22, none, .idx 10 (.t 19) (.t 20)⟩,
  ⟨some 23, none, .fld (.t 22) 1⟩,
  ⟨some 24, none, .fld (.t 23) 0⟩,
  ⟨some 25, none, .fld (.t 24) 0⟩,
  ⟨none, none, .sto 1 (.t 25) (.t 21)⟩]
def c_laws_markIssueS_r18 : List GOp := [⟨some 17, none, .mv (.t 1)⟩,
  ⟨some 18, none, .bin .add (.t 17) (.c (.int .i64 1))⟩,
  ⟨some 1, none, .asg true (.t 18)⟩]
def c_laws_markIssueS_r19 : List GOp := [⟨some 12, none, .mv (.t 0)⟩,
  ⟨some 13, none, .mv (.t 5)⟩,
  ⟨some 14, none, .mv (.t 1)⟩,
  ⟨some 15, none, .idx 10 (.t 12) (.t 13)⟩,
  ⟨some 16, none, .fld (.t 15) 0⟩,
  ⟨none, none, .sto 1 (.t 16) (.t 14)⟩]
def c_laws_markIssueS_r20 : List GOp := [⟨some 6, none, .mv (.t 5)⟩,
  ⟨some 7, none, .mv (.t 0)⟩,
  ⟨some 8, none, .len (.t 7)⟩,
  ⟨some 9, none, .bin .lss (.t 6) (.t 8)⟩]
def c_laws_markIssueS_b0 : CC := .seq (.seq (.reg none c_laws_markIssueS_r20 [0, 1, 5, 9, 1000, 1001, 1002, 1003, 1004, 1005, 1006, 1007, 1008, 1009]) (.cnd (.t 9) (.skip) (.exit 0))) (.seq (.blk 1 (.seq (.reg none c_laws_markIssueS_r19 [0, 1, 5, 1000, 1001, 1002, 1003, 1004, 1005, 1006, 1007, 1008, 1009]) (.seq (.reg none c_laws_markIssueS_r18 [0, 1, 5, 1000, 1001, 1002, 1003, 1004, 1005, 1006, 1007, 1008, 1009]) (.seq (.reg none c_laws_markIssueS_r17 [0, 1, 5, 1000, 1001, 1002, 1003, 1004, 1005, 1006, 1007, 1008, 1009]) (.seq (.reg none c_laws_markIssueS_r16 [0, 1, 5, 1000, 1001, 1002, 1003, 1004, 1005, 1006, 1007, 1008, 1009]) (.seq (.reg none c_laws_markIssueS_r15 [0, 1, 5, 1000, 1001, 1002, 1003, 1004, 1005, 1006, 1007, 1008, 1009]) (.seq (.reg none c_laws_markIssueS_r14 [0, 1, 5, 1000, 1001, 1002, 1003, 1004, 1005, 1006, 1007, 1008, 1009]) (.seq (.reg none c_laws_markIssueS_r13 [0, 1, 5, 1000, 1001, 1002, 1003, 1004, 1005, 1006, 1007, 1008, 1009]) (.seq (.reg none c_laws_markIssueS_r12 [0, 1, 5, 1000, 1001, 1002, 1003, 1004, 1005, 1006, 1007, 1008, 1009]) (.seq (.reg none c_laws_markIssueS_r11 [0, 1, 5, 1000, 1001, 1002, 1003, 1004, 1005, 1006, 1007, 1008, 1009]) (.seq (.reg none c_laws_markIssueS_r10 [0, 1, 5, 1000, 1001, 1002, 1003, 1004, 1005, 1006, 1007, 1008, 1009]) (.seq (.reg none c_laws_markIssueS_r9 [0, 1, 5, 1000, 1001, 1002, 1003, 1004, 1005, 1006, 1007, 1008, 1009]) (.seq (.reg none c_laws_markIssueS_r8 [0, 1, 5, 1000, 1001, 1002, 1003, 1004, 1005, 1006, 1007, 1008, 1009]) (.seq (.reg none c_laws_markIssueS_r7 [0, 1, 5, 1000, 1001, 1002, 1003, 1004, 1005, 1006, 1007, 1008, 1009]) (.seq (.reg none c_laws_markIssueS_r6 [0, 1, 5, 1000, 1001, 1002, 1003, 1004, 1005, 1006, 1007, 1008, 1009]) (.seq (.reg none c_laws_markIssueS_r5 [0, 1, 5, 1000, 1001, 1002, 1003, 1004, 1005, 1006, 1007, 1008, 1009]) (.seq (.reg none c_laws_markIssueS_r4 [0, 1, 5, 1000, 1001, 1002, 1003, 1004, 1005, 1006, 1007, 1008, 1009]) (.seq (.reg none c_laws_markIssueS_r3 [0, 1, 5, 1000, 1001, 1002, 1003, 1004, 1005, 1006, 1007, 1008, 1009]) (.reg none c_laws_markIssueS_r2 [0, 1, 5, 1000, 1001, 1002, 1003, 1004, 1005, 1006, 1007, 1008, 1009]))))))))))))))))))) (.reg none c_laws_markIssueS_r1 [0, 1, 5, 1000, 1001, 1002, 1003, 1004, 1005, 1006, 1007, 1008, 1009]))
def c_laws_markIssueS_r21 : List GOp := [⟨some 5, none, .asg false (.c (.int .i64 0))⟩]
def c_laws_markIssueS_r22 : List GOp := [⟨some 4, none, .asg false (.c (.int .i64 0))⟩]
def c_laws_markIssueS : CC := .seq (.reg none c_laws_markIssueS_r22 [0, 1, 1000, 1001, 1002, 1003, 1004, 1005, 1006, 1007, 1008, 1009]) (.seq (.seq (.reg none c_laws_markIssueS_r21 [0, 1, 5, 1000, 1001, 1002, 1003, 1004, 1005, 1006, 1007, 1008, 1009]) (.blk 0 (.loop c_laws_markIssueS_b0 [0, 1, 5, 1000, 1001, 1002, 1003, 1004, 1005, 1006, 1007, 1008, 1009]))) (.seq (.reg none c_laws_markIssueS_r0 [4, 1000, 1001, 1002, 1003, 1004, 1005, 1006, 1007, 1008, 1009]) (.ret)))
abbrev L_laws_markIssueS_0 (P : Program) (Q : Env → Prop) (E : Env) : Prop := RunQ P Q (.code c_laws_markIssueS_b0 :: .lp c_laws_markIssueS_b0 [0, 1, 5, 1000, 1001, 1002, 1003, 1004, 1005, 1006, 1007, 1008, 1009] :: [.blk 0, .code (.seq (.reg none c_laws_markIssueS_r0 [4, 1000, 1001, 1002, 1003, 1004, 1005, 1006, 1007, 1008, 1009]) (.ret))]) E
theorem k_laws_markIssueS : chkF Tryz.prog Tryz.f64 c_laws_markIssueS [.tmp 4] = true := by kernel_rfl
theorem S_laws_markIssueS {args : List AV} {r : List RV} (hs : sizeXs Tryz.prog Tryz.f64.results.toList r = true) (hn : args.length ≤ 94) (h : Run Tryz.prog [.tmp 4] [.code c_laws_markIssueS] (argEnv args 0) r) : CallsOK Tryz.prog F_laws_markIssueS args r := callsOK Tryz.func64 k_laws_markIssueS hs hn h
theorem SH_laws_markIssueS {args : (Nat → Value) → List AV} {res : (Nat → Value) → List RV} {hin hout : List HT} (ni no : List Nat) (hs : ∀ v, sizeXs Tryz.prog Tryz.f64.results.toList (res v) = true) (hn : ∀ v, (args v).length ≤ 94 ∧ ∀ n ∈ ni, (args v).length ≤ n) (hni : ni.Nodup) (hno : no.Nodup) (h : ∀ u : Gh, RunQ Tryz.prog (fun E => ∃ u' : Gh, resP E [.tmp 4] = some (res u'.1) ∧ (∀ i, i < hin.length → u'.1 i = u.1 i) ∧ GetH E (fun i => decide (hin.length ≤ i)) u' no hout 0) [.code c_laws_markIssueS] (envH (fun _ => false) u ni hin 0 ++ argEnv (args u.1) 0)) : CallsH Tryz.prog F_laws_markIssueS hin hout args res := callsH_of_run ni no Tryz.func64 k_laws_markIssueS hs hn hni hno h

-- loop.example/g03003/laws.markUsedS
def c_laws_markUsedS_r0 : List GOp := [⟨some 27, none, .mv (.t 1)⟩,
  ⟨some 4, none, .asg true (.t 27)⟩]
def c_laws_markUsedS_r1 : List GOp := [⟨some 10, none, .mv (.t 5)⟩,
  ⟨some 11, none, .bin .add (.t 10) (.c (.int .i64 1))⟩,
  ⟨some 5, none, .asg true (.t 11)⟩]
def c_laws_markUsedS_r2 : List GOp := [⟨some 25, none, .mv (.t 1)⟩,
  ⟨some 26, none, .bin .add (.t 25) (.c (.int .i64 1))⟩,
  ⟨some 1, none, .asg true (.t 26)⟩]
def c_laws_markUsedS_r3 : List GOp := [⟨some 20, none, .mv (.t 0)⟩,
  ⟨some 21, none, .mv (.t 5)⟩,
  ⟨some 22, none, .mv (.t 1)⟩,
  ⟨some 23, none, .idx 2 (.t 20) (.t 21)⟩,
  ⟨some 24, none, .fld (.t 23) 1⟩,
  ⟨none, none, .sto 1 (.t 24) (.t 22)⟩]
def c_laws_markUsedS_r4 : List GOp := [⟨some 18, none, .mv (.t 1)⟩,
  ⟨some 19, none, .bin .add (.t 18) (.c (.int .i64 1))⟩,
  ⟨some 1, none, .asg true (.t 19)⟩]
def c_laws_markUsedS_r5 : List GOp := [⟨some 12, none, .mv (.t 0)⟩,
  ⟨some 13, none, .mv (.t 5)⟩,
  ⟨some 14, none, .mv (.t 1)⟩,
  ⟨some 15, none, .call F_laws_markText [.t 14]⟩,
  ⟨some 16, none, .idx 2 (.t 12) (.t 13)⟩,
  ⟨some 17, none, .fld (.t 16) 0⟩,
  ⟨none, none, .sto 1 (.t 17) (.t 15)⟩]
def c_laws_markUsedS_r6 : List GOp := [⟨some 6, none, .mv (.t 5)⟩,
  ⟨some 7, none, .mv (.t 0)⟩,
  ⟨some 8, none, .len (.t 7)⟩,
  ⟨some 9, none, .bin .lss (.t 6) (.t 8)⟩]
def c_laws_markUsedS_b0 : CC := .seq (.seq (.reg none c_laws_markUsedS_r6 [0, 1, 5, 9, 1000, 1001, 1002, 1003, 1004, 1005, 1006, 1007, 1008, 1009]) (.cnd (.t 9) (.skip) (.exit 0))) (.seq (.blk 1 (.seq (.reg none c_laws_markUsedS_r5 [0, 1, 5, 1000, 1001, 1002, 1003, 1004, 1005, 1006, 1007, 1008, 1009]) (.seq (.reg none c_laws_markUsedS_r4 [0, 1, 5, 1000, 1001, 1002, 1003, 1004, 1005, 1006, 1007, 1008, 1009]) (.seq (.reg none c_laws_markUsedS_r3 [0, 1, 5, 1000, 1001, 1002, 1003, 1004, 1005, 1006, 1007, 1008, 1009]) (.reg none c_laws_markUsedS_r2 [0, 1, 5, 1000, 1001, 1002, 1003, 1004, 1005, 1006, 1007, 1008, 1009]))))) (.reg none c_laws_markUsedS_r1 [0, 1, 5, 1000, 1001, 1002, 1003, 1004, 1005, 1006, 1007, 1008, 1009]))
def c_laws_markUsedS_r7 : List GOp := [⟨some 5, none, .asg false (.c (.int .i64 0))⟩]
def c_laws_markUsedS_r8 : List GOp := [⟨some 4, none, .asg false (.c (.int .i64 0))⟩]
def c_laws_markUsedS : CC := .seq (.reg none c_laws_markUsedS_r8 [0, 1, 1000, 1001, 1002, 1003, 1004, 1005, 1006, 1007, 1008, 1009]) (.seq (.seq (.reg none c_laws_markUsedS_r7 [0, 1, 5, 1000, 1001, 1002, 1003, 1004, 1005, 1006, 1007, 1008, 1009]) (.blk 0 (.loop c_laws_markUsedS_b0 [0, 1, 5, 1000, 1001, 1002, 1003, 1004, 1005, 1006, 1007, 1008, 1009]))) (.seq (.reg none c_laws_markUsedS_r0 [4, 1000, 1001, 1002, 1003, 1004, 1005, 1006, 1007, 1008, 1009]) (.ret)))
abbrev L_laws_markUsedS_0 (P : Program) (Q : Env → Prop) (E : Env) : Prop := RunQ P Q (.code c_laws_markUsedS_b0 :: .lp c_laws_markUsedS_b0 [0, 1, 5, 1000, 1001, 1002, 1003, 1004, 1005, 1006, 1007, 1008, 1009] :: [.blk 0, .code (.seq (.reg none c_laws_markUsedS_r0 [4, 1000, 1001, 1002, 1003, 1004, 1005, 1006, 1007, 1008, 1009]) (.ret))]) E
theorem k_laws_markUsedS : chkF Tryz.prog Tryz.f65 c_laws_markUsedS [.tmp 4] = true := by kernel_rfl
theorem S_laws_markUsedS {args : List AV} {r : List RV} (hs : sizeXs Tryz.prog Tryz.f65.results.toList r = true) (hn : args.length ≤ 28) (h : Run Tryz.prog [.tmp 4] [.code c_laws_markUsedS] (argEnv args 0) r) : CallsOK Tryz.prog F_laws_markUsedS args r := callsOK Tryz.func65 k_laws_markUsedS hs hn h
theorem SH_laws_markUsedS {args : (Nat → Value) → List AV} {res : (Nat → Value) → List RV} {hin hout : List HT} (ni no : List Nat) (hs : ∀ v, sizeXs Tryz.prog Tryz.f65.results.toList (res v) = true) (hn : ∀ v, (args v).length ≤ 28 ∧ ∀ n ∈ ni, (args v).length ≤ n) (hni : ni.Nodup) (hno : no.Nodup) (h : ∀ u : Gh, RunQ Tryz.prog (fun E => ∃ u' : Gh, resP E [.tmp 4] = some (res u'.1) ∧ (∀ i, i < hin.length → u'.1 i = u.1 i) ∧ GetH E (fun i => decide (hin.length ≤ i)) u' no hout 0) [.code c_laws_markUsedS] (envH (fun _ => false) u ni hin 0 ++ argEnv (args u.1) 0)) : CallsH Tryz.prog F_laws_markUsedS hin hout args res := callsH_of_run ni no Tryz.func65 k_laws_markUsedS hs hn hni hno h

-- loop.example/g03003/laws.markCorrectionS
def c_laws_markCorrectionS_r0 : List GOp := [⟨some 49, none, .mv (.t 1)⟩,
  ⟨some 4, none, .asg true (.t 49)⟩]
def c_laws_markCorrectionS_r1 : List GOp := [⟨some 10, none, .mv (.t 5)⟩,
  ⟨some 11, none, .bin .add (.t 10) (.c (.int .i64 1))⟩,
  ⟨some 5, none, .asg true (.t 11)⟩]
def c_laws_markCorrectionS_r2 : List GOp := [⟨some 47, none, .mv (.t 1)⟩,
  ⟨some 48, none, .bin .add (.t 47) (.c (.int .i64 1))⟩,
  ⟨some 1, none, .asg true (.t 48)⟩]
def c_laws_markCorrectionS_r3 : List GOp := [⟨some 42, none, .mv (.t 0)⟩,
  ⟨some 43, none, .mv (.t 5)⟩,
  ⟨some 44, none, .mv (.t 1)⟩,
  ⟨some 45, none, .idx 5 (.t 42) (.t 43)⟩,
  ⟨some 46, none, .fld (.t 45) 4⟩,
  ⟨none, none, .sto 1 (.t 46) (.t 44)⟩]
def c_laws_markCorrectionS_r4 : List GOp := [⟨some 34, none, .mv (.t 0)⟩,
  ⟨some 35, none, .mv (.t 5)⟩,
  ⟨some 36, none, .idx 5 (.t 34) (.t 35)⟩,
  ⟨some 37, none, .fld (.t 36) 2⟩,
  ⟨some 38, none, .fld (.t 37) 1⟩,
  ⟨some 39, none, .ld (.t 38)⟩,
  ⟨some 40, none, .mv (.t 1)⟩,
  ⟨some 41, none, .call F_laws_markStepS [.t 39, .t 40]⟩,
  ⟨some 1, none, .asg true (.t 41)⟩]
def c_laws_markCorrectionS_r5 : List GOp := [⟨some 32, none, .mv (.t 1)⟩,
  ⟨some 33, none, .bin .add (.t 32) (.c (.int .i64 1))⟩,
  ⟨some 1, none, .asg true (.t 33)⟩]
def c_laws_markCorrectionS_r6 : List GOp := [⟨some 26, none, .mv (.t 0)⟩,
  ⟨some 27, none, .mv (.t 5)⟩,
  ⟨some 28, none, .mv (.t 1)⟩,
  ⟨some 29, none, .idx 5 (.t 26) (.t 27)⟩,
  ⟨some 30, none, .fld (.t 29) 2⟩,
  ⟨some 31, none, .fld (.t 30) 0⟩,
  ⟨none, none, .sto 1 (.t 31) (.t 28)⟩]
def c_laws_markCorrectionS_r7 : List GOp := [⟨some 24, none, .mv (.t 1)⟩,
  ⟨some 25, none, .bin .add (.t 24) (.c (.int .i64 1))⟩,
  ⟨some 1, none, .asg true (.t 25)⟩]
def c_laws_markCorrectionS_r8 : List GOp := [⟨some 19, none, .mv (.t 0)⟩,
  ⟨some 20, none, .mv (.t 5)⟩,
  ⟨some 21, none, .mv (.t 1)⟩,
  ⟨some 22, none, .idx 5 (.t 19) (.t 20)⟩,
  ⟨some 23, none, .fld (.t 22) 1⟩,
  ⟨none, none, .sto 1 (.t 23) (.t 21)⟩]
def c_laws_markCorrectionS_r9 : List GOp := [⟨some 17, none, .mv (.t 1)⟩,
  ⟨some 18, none, .bin .add (.t 17) (.c (.int .i64 1))⟩,
  ⟨some 1, none, .asg true (.t 18)⟩]
def c_laws_markCorrectionS_r10 : List GOp := [⟨some 12, none, .mv (.t 0)⟩,
  ⟨some 13, none, .mv (.t 5)⟩,
  ⟨some 14, none, .mv (.t 1)⟩,
  ⟨some 15, none, .idx 5 (.t 12) (.t 13)⟩,
  ⟨some 16, none, .fld (.t 15) 0⟩,
  ⟨none, none, .sto 1 (.t 16) (.t 14)⟩]
def c_laws_markCorrectionS_r11 : List GOp := [⟨some 6, none, .mv (.t 5)⟩,
  ⟨some 7, none, .mv (.t 0)⟩,
  ⟨some 8, none, .len (.t 7)⟩,
  ⟨some 9, none, .bin .lss (.t 6) (.t 8)⟩]
def c_laws_markCorrectionS_b0 : CC := .seq (.seq (.reg none c_laws_markCorrectionS_r11 [0, 1, 5, 9, 1000, 1001, 1002, 1003, 1004, 1005, 1006, 1007, 1008, 1009]) (.cnd (.t 9) (.skip) (.exit 0))) (.seq (.blk 1 (.seq (.reg none c_laws_markCorrectionS_r10 [0, 1, 5, 1000, 1001, 1002, 1003, 1004, 1005, 1006, 1007, 1008, 1009]) (.seq (.reg none c_laws_markCorrectionS_r9 [0, 1, 5, 1000, 1001, 1002, 1003, 1004, 1005, 1006, 1007, 1008, 1009]) (.seq (.reg none c_laws_markCorrectionS_r8 [0, 1, 5, 1000, 1001, 1002, 1003, 1004, 1005, 1006, 1007, 1008, 1009]) (.seq (.reg none c_laws_markCorrectionS_r7 [0, 1, 5, 1000, 1001, 1002, 1003, 1004, 1005, 1006, 1007, 1008, 1009]) (.seq (.reg none c_laws_markCorrectionS_r6 [0, 1, 5, 1000, 1001, 1002, 1003, 1004, 1005, 1006, 1007, 1008, 1009]) (.seq (.reg none c_laws_markCorrectionS_r5 [0, 1, 5, 1000, 1001, 1002, 1003, 1004, 1005, 1006, 1007, 1008, 1009]) (.seq (.reg none c_laws_markCorrectionS_r4 [0, 1, 5, 1000, 1001, 1002, 1003, 1004, 1005, 1006, 1007, 1008, 1009]) (.seq (.reg none c_laws_markCorrectionS_r3 [0, 1, 5, 1000, 1001, 1002, 1003, 1004, 1005, 1006, 1007, 1008, 1009]) (.reg none c_laws_markCorrectionS_r2 [0, 1, 5, 1000, 1001, 1002, 1003, 1004, 1005, 1006, 1007, 1008, 1009])))))))))) (.reg none c_laws_markCorrectionS_r1 [0, 1, 5, 1000, 1001, 1002, 1003, 1004, 1005, 1006, 1007, 1008, 1009]))
def c_laws_markCorrectionS_r12 : List GOp := [⟨some 5, none, .asg false (.c (.int .i64 0))⟩]
def c_laws_markCorrectionS_r13 : List GOp := [⟨some 4, none, .asg false (.c (.int .i64 0))⟩]
def c_laws_markCorrectionS : CC := .seq (.reg none c_laws_markCorrectionS_r13 [0, 1, 1000, 1001, 1002, 1003, 1004, 1005, 1006, 1007, 1008, 1009]) (.seq (.seq (.reg none c_laws_markCorrectionS_r12 [0, 1, 5, 1000, 1001, 1002, 1003, 1004, 1005, 1006, 1007, 1008, 1009]) (.blk 0 (.loop c_laws_markCorrectionS_b0 [0, 1, 5, 1000, 1001, 1002, 1003, 1004, 1005, 1006, 1007, 1008, 1009]))) (.seq (.reg none c_laws_markCorrectionS_r0 [4, 1000, 1001, 1002, 1003, 1004, 1005, 1006, 1007, 1008, 1009]) (.ret)))
abbrev L_laws_markCorrectionS_0 (P : Program) (Q : Env → Prop) (E : Env) : Prop := RunQ P Q (.code c_laws_markCorrectionS_b0 :: .lp c_laws_markCorrectionS_b0 [0, 1, 5, 1000, 1001, 1002, 1003, 1004, 1005, 1006, 1007, 1008, 1009] :: [.blk 0, .code (.seq (.reg none c_laws_markCorrectionS_r0 [4, 1000, 1001, 1002, 1003, 1004, 1005, 1006, 1007, 1008, 1009]) (.ret))]) E
theorem k_laws_markCorrectionS : chkF Tryz.prog Tryz.f66 c_laws_markCorrectionS [.tmp 4] = true := by kernel_rfl
theorem S_laws_markCorrectionS {args : List AV} {r : List RV} (hs : sizeXs Tryz.prog Tryz.f66.results.toList r = true) (hn : args.length ≤ 50) (h : Run Tryz.prog [.tmp 4] [.code c_laws_markCorrectionS] (argEnv args 0) r) : CallsOK Tryz.prog F_laws_markCorrectionS args r := callsOK Tryz.func66 k_laws_markCorrectionS hs hn h
theorem SH_laws_markCorrectionS {args : (Nat → Value) → List AV} {res : (Nat → Value) → List RV} {hin hout : List HT} (ni no : List Nat) (hs : ∀ v, sizeXs Tryz.prog Tryz.f66.results.toList (res v) = true) (hn : ∀ v, (args v).length ≤ 50 ∧ ∀ n ∈ ni, (args v).length ≤ n) (hni : ni.Nodup) (hno : no.Nodup) (h : ∀ u : Gh, RunQ Tryz.prog (fun E => ∃ u' : Gh, resP E [.tmp 4] = some (res u'.1) ∧ (∀ i, i < hin.length → u'.1 i = u.1 i) ∧ GetH E (fun i => decide (hin.length ≤ i)) u' no hout 0) [.code c_laws_markCorrectionS] (envH (fun _ => false) u ni hin 0 ++ argEnv (args u.1) 0)) : CallsH Tryz.prog F_laws_markCorrectionS hin hout args res := callsH_of_run ni no Tryz.func66 k_laws_markCorrectionS hs hn hni hno h

-- loop.example/g03003/laws.markEntryS
def c_laws_markEntryS_r0 : List GOp := [⟨some 41, none, .mv (.t 1)⟩,
  ⟨some 4, none, .asg true (.t 41)⟩]
def c_laws_markEntryS_r1 : List GOp := [⟨some 10, none, .mv (.t 5)⟩,
  ⟨some 11, none, .bin .add (.t 10) (.c (.int .i64 1))⟩,
  ⟨some 5, none, .asg true (.t 11)⟩]
def c_laws_markEntryS_r2 : List GOp := [⟨some 39, none, .mv (.t 1)⟩,
  ⟨some 40, none, .bin .add (.t 39) (.c (.int .i64 1))⟩,
  ⟨some 1, none, .asg true (.t 40)⟩]
def c_laws_markEntryS_r3 : List GOp := [⟨some 33, none, .mv (.t 0)⟩,
  ⟨some 34, none, .mv (.t 5)⟩,
  ⟨some 35, none, .mv (.t 1)⟩,
  ⟨some 36, none, .call F_laws_markText [.t 35]⟩,
  ⟨some 37, none, .idx 4 (.t 33) (.t 34)⟩,
  ⟨some 38, none, .fld (.t 37) 3⟩,
  ⟨none, none, .sto 1 (.t 38) (.t 36)⟩]
def c_laws_markEntryS_r4 : List GOp := [⟨some 31, none, .mv (.t 1)⟩,
  ⟨some 32, none, .bin .add (.t 31) (.c (.int .i64 1))⟩,
  ⟨some 1, none, .asg true (.t 32)⟩]
def c_laws_markEntryS_r5 : List GOp := [⟨some 26, none, .mv (.t 0)⟩,
  ⟨some 27, none, .mv (.t 5)⟩,
  ⟨some 28, none, .mv (.t 1)⟩,
  ⟨some 29, none, .idx 4 (.t 26) (.t 27)⟩,
  ⟨some 30, none, .fld (.t 29) 2⟩,
  ⟨none, none, .sto 1 (.t 30) (.t 28)⟩]
def c_laws_markEntryS_r6 : List GOp := [⟨some 24, none, .mv (.t 1)⟩,
  ⟨some 25, none, .bin .add (.t 24) (.c (.int .i64 1))⟩,
  ⟨some 1, none, .asg true (.t 25)⟩]
def c_laws_markEntryS_r7 : List GOp := [⟨some 19, none, .mv (.t 0)⟩,
  ⟨some 20, none, .mv (.t 5)⟩,
  ⟨some 21, none, .mv (.t 1)⟩,
  ⟨some 22, none, .idx 4 (.t 19) (.t 20)⟩,
  ⟨some 23, none, .fld (.t 22) 1⟩,
  ⟨none, none, .sto 1 (.t 23) (.t 21)⟩]
def c_laws_markEntryS_r8 : List GOp := [⟨some 17, none, .mv (.t 1)⟩,
  ⟨some 18, none, .bin .add (.t 17) (.c (.int .i64 1))⟩,
  ⟨some 1, none, .asg true (.t 18)⟩]
def c_laws_markEntryS_r9 : List GOp := [⟨some 12, none, .mv (.t 0)⟩,
  ⟨some 13, none, .mv (.t 5)⟩,
  ⟨some 14, none, .mv (.t 1)⟩,
  ⟨some 15, none, .idx 4 (.t 12) (.t 13)⟩,
  ⟨some 16, none, .fld (.t 15) 0⟩,
  ⟨none, none, .sto 1 (.t 16) (.t 14)⟩]
def c_laws_markEntryS_r10 : List GOp := [⟨some 6, none, .mv (.t 5)⟩,
  ⟨some 7, none, .mv (.t 0)⟩,
  ⟨some 8, none, .len (.t 7)⟩,
  ⟨some 9, none, .bin .lss (.t 6) (.t 8)⟩]
def c_laws_markEntryS_b0 : CC := .seq (.seq (.reg none c_laws_markEntryS_r10 [0, 1, 5, 9, 1000, 1001, 1002, 1003, 1004, 1005, 1006, 1007, 1008, 1009]) (.cnd (.t 9) (.skip) (.exit 0))) (.seq (.blk 1 (.seq (.reg none c_laws_markEntryS_r9 [0, 1, 5, 1000, 1001, 1002, 1003, 1004, 1005, 1006, 1007, 1008, 1009]) (.seq (.reg none c_laws_markEntryS_r8 [0, 1, 5, 1000, 1001, 1002, 1003, 1004, 1005, 1006, 1007, 1008, 1009]) (.seq (.reg none c_laws_markEntryS_r7 [0, 1, 5, 1000, 1001, 1002, 1003, 1004, 1005, 1006, 1007, 1008, 1009]) (.seq (.reg none c_laws_markEntryS_r6 [0, 1, 5, 1000, 1001, 1002, 1003, 1004, 1005, 1006, 1007, 1008, 1009]) (.seq (.reg none c_laws_markEntryS_r5 [0, 1, 5, 1000, 1001, 1002, 1003, 1004, 1005, 1006, 1007, 1008, 1009]) (.seq (.reg none c_laws_markEntryS_r4 [0, 1, 5, 1000, 1001, 1002, 1003, 1004, 1005, 1006, 1007, 1008, 1009]) (.seq (.reg none c_laws_markEntryS_r3 [0, 1, 5, 1000, 1001, 1002, 1003, 1004, 1005, 1006, 1007, 1008, 1009]) (.reg none c_laws_markEntryS_r2 [0, 1, 5, 1000, 1001, 1002, 1003, 1004, 1005, 1006, 1007, 1008, 1009]))))))))) (.reg none c_laws_markEntryS_r1 [0, 1, 5, 1000, 1001, 1002, 1003, 1004, 1005, 1006, 1007, 1008, 1009]))
def c_laws_markEntryS_r11 : List GOp := [⟨some 5, none, .asg false (.c (.int .i64 0))⟩]
def c_laws_markEntryS_r12 : List GOp := [⟨some 4, none, .asg false (.c (.int .i64 0))⟩]
def c_laws_markEntryS : CC := .seq (.reg none c_laws_markEntryS_r12 [0, 1, 1000, 1001, 1002, 1003, 1004, 1005, 1006, 1007, 1008, 1009]) (.seq (.seq (.reg none c_laws_markEntryS_r11 [0, 1, 5, 1000, 1001, 1002, 1003, 1004, 1005, 1006, 1007, 1008, 1009]) (.blk 0 (.loop c_laws_markEntryS_b0 [0, 1, 5, 1000, 1001, 1002, 1003, 1004, 1005, 1006, 1007, 1008, 1009]))) (.seq (.reg none c_laws_markEntryS_r0 [4, 1000, 1001, 1002, 1003, 1004, 1005, 1006, 1007, 1008, 1009]) (.ret)))
abbrev L_laws_markEntryS_0 (P : Program) (Q : Env → Prop) (E : Env) : Prop := RunQ P Q (.code c_laws_markEntryS_b0 :: .lp c_laws_markEntryS_b0 [0, 1, 5, 1000, 1001, 1002, 1003, 1004, 1005, 1006, 1007, 1008, 1009] :: [.blk 0, .code (.seq (.reg none c_laws_markEntryS_r0 [4, 1000, 1001, 1002, 1003, 1004, 1005, 1006, 1007, 1008, 1009]) (.ret))]) E
theorem k_laws_markEntryS : chkF Tryz.prog Tryz.f67 c_laws_markEntryS [.tmp 4] = true := by kernel_rfl
theorem S_laws_markEntryS {args : List AV} {r : List RV} (hs : sizeXs Tryz.prog Tryz.f67.results.toList r = true) (hn : args.length ≤ 42) (h : Run Tryz.prog [.tmp 4] [.code c_laws_markEntryS] (argEnv args 0) r) : CallsOK Tryz.prog F_laws_markEntryS args r := callsOK Tryz.func67 k_laws_markEntryS hs hn h
theorem SH_laws_markEntryS {args : (Nat → Value) → List AV} {res : (Nat → Value) → List RV} {hin hout : List HT} (ni no : List Nat) (hs : ∀ v, sizeXs Tryz.prog Tryz.f67.results.toList (res v) = true) (hn : ∀ v, (args v).length ≤ 42 ∧ ∀ n ∈ ni, (args v).length ≤ n) (hni : ni.Nodup) (hno : no.Nodup) (h : ∀ u : Gh, RunQ Tryz.prog (fun E => ∃ u' : Gh, resP E [.tmp 4] = some (res u'.1) ∧ (∀ i, i < hin.length → u'.1 i = u.1 i) ∧ GetH E (fun i => decide (hin.length ≤ i)) u' no hout 0) [.code c_laws_markEntryS] (envH (fun _ => false) u ni hin 0 ++ argEnv (args u.1) 0)) : CallsH Tryz.prog F_laws_markEntryS hin hout args res := callsH_of_run ni no Tryz.func67 k_laws_markEntryS hs hn hni hno h

-- loop.example/g03003/laws.heldListedS
def c_laws_heldListedS_r0 : List GOp := [⟨some 49, none, .mv (.t 1)⟩,
  ⟨some 4, none, .asg true (.t 49)⟩]
def c_laws_heldListedS_r1 : List GOp := [⟨some 10, none, .mv (.t 5)⟩,
  ⟨some 11, none, .bin .add (.t 10) (.c (.int .i64 1))⟩,
  ⟨some 5, none, .asg true (.t 11)⟩]
def c_laws_heldListedS_r2 : List GOp := [⟨some 47, none, .mv (.t 1)⟩,
  ⟨some 48, none, .bin .add (.t 47) (.c (.int .i64 1))⟩,
  ⟨some 1, none, .asg true (.t 48)⟩]
def c_laws_heldListedS_r3 : List GOp := [⟨some 4, none, .asg false (.c (.int .i64 (-1)))⟩]
def c_laws_heldListedS_r4 : List GOp := [⟨some 40, none, .mv (.t 0)⟩,
  ⟨some 41, none, .mv (.t 5)⟩,
  ⟨some 42, none, .idx 4 (.t 40) (.t 41)⟩,
  ⟨some 43, none, .fld (.t 42) 3⟩,
  ⟨some 44, none, .ld (.t 43)⟩,
  ⟨some 45, none, .mv (.t 1)⟩,
  ⟨some 46, none, .bin .neq (.t 44) (.t 45)⟩]
def c_laws_heldListedS_r5 : List GOp := [⟨some 38, none, .mv (.t 1)⟩,
  ⟨some 39, none, .bin .add (.t 38) (.c (.int .i64 1))⟩,
  ⟨some 1, none, .asg true (.t 39)⟩]
def c_laws_heldListedS_r6 : List GOp := [⟨some 4, none, .asg false (.c (.int .i64 (-1)))⟩]
def c_laws_heldListedS_r7 : List GOp := [⟨some 31, none, .mv (.t 0)⟩,
  ⟨some 32, none, .mv (.t 5)⟩,
  ⟨some 33, none, .idx 4 (.t 31) (.t 32)⟩,
  ⟨some 34, none, .fld (.t 33) 2⟩,
  ⟨some 35, none, .ld (.t 34)⟩,
  ⟨some 36, none, .mv (.t 1)⟩,
  ⟨some 37, none, .bin .neq (.t 35) (.t 36)⟩]
def c_laws_heldListedS_r8 : List GOp := [⟨some 29, none, .mv (.t 1)⟩,
  ⟨some 30, none, .bin .add (.t 29) (.c (.int .i64 1))⟩,
  ⟨some 1, none, .asg true (.t 30)⟩]
def c_laws_heldListedS_r9 : List GOp := [⟨some 4, none, .asg false (.c (.int .i64 (-1)))⟩]
def c_laws_heldListedS_r10 : List GOp := [⟨some 22, none, .mv (.t 0)⟩,
  ⟨some 23, none, .mv (.t 5)⟩,
  ⟨some 24, none, .idx 4 (.t 22) (.t 23)⟩,
  ⟨some 25, none, .fld (.t 24) 1⟩,
  ⟨some 26, none, .ld (.t 25)⟩,
  ⟨some 27, none, .mv (.t 1)⟩,
  ⟨some 28, none, .bin .neq (.t 26) (.t 27)⟩]
def c_laws_heldListedS_r11 : List GOp := [⟨some 20, none, .mv (.t 1)⟩,
  ⟨some 21, none, .bin .add (.t 20) (.c (.int .i64 1))⟩,
  ⟨some 1, none, .asg true (.t 21)⟩]
def c_laws_heldListedS_r12 : List GOp := [⟨some 4, none, .asg false (.c (.int .i64 (-1)))⟩]
def c_laws_heldListedS_r13 : List GOp := [⟨some 12, none, .mv (.t 0)⟩,
  ⟨some 13, none, .mv (.t 5)⟩,
  ⟨some 14, none, .idx 4 (.t 12) (.t 13)⟩,
  ⟨some 15, none, .fld (.t 14) 0⟩,
  ⟨some 16, none, .ld (.t 15)⟩,
  ⟨some 17, none, .mv (.t 1)⟩,
  ⟨some 18, none, .call F_laws_markText [.t 17]⟩,
  ⟨some 19, none, .bin .neq (.t 16) (.t 18)⟩]
def c_laws_heldListedS_r14 : List GOp := [⟨some 6, none, .mv (.t 5)⟩,
  ⟨some 7, none, .mv (.t 0)⟩,
  ⟨some 8, none, .len (.t 7)⟩,
  ⟨some 9, none, .bin .lss (.t 6) (.t 8)⟩]
def c_laws_heldListedS_b0 : CC := .seq (.seq (.reg none c_laws_heldListedS_r14 [0, 1, 5, 9]) (.cnd (.t 9) (.skip) (.exit 0))) (.seq (.blk 1 (.seq (.seq (.reg (some (8, [[], [], [0, 1], [0, 1, 2], [0, 1, 2, 3], [], [5], [0, 1, 2, 3, 4, 5, 6]])) c_laws_heldListedS_r13 [0, 1, 5, 19]) (.cnd (.t 19) (.seq (.reg none c_laws_heldListedS_r12 [4]) (.ret)) (.skip))) (.seq (.reg none c_laws_heldListedS_r11 [0, 1, 5]) (.seq (.seq (.reg none c_laws_heldListedS_r10 [0, 1, 5, 28]) (.cnd (.t 28) (.seq (.reg none c_laws_heldListedS_r9 [4]) (.ret)) (.skip))) (.seq (.reg none c_laws_heldListedS_r8 [0, 1, 5]) (.seq (.seq (.reg none c_laws_heldListedS_r7 [0, 1, 5, 37]) (.cnd (.t 37) (.seq (.reg none c_laws_heldListedS_r6 [4]) (.ret)) (.skip))) (.seq (.reg none c_laws_heldListedS_r5 [0, 1, 5]) (.seq (.seq (.reg none c_laws_heldListedS_r4 [0, 1, 5, 46]) (.cnd (.t 46) (.seq (.reg none c_laws_heldListedS_r3 [4]) (.ret)) (.skip))) (.reg none c_laws_heldListedS_r2 [0, 1, 5]))))))))) (.reg none c_laws_heldListedS_r1 [0, 1, 5]))
def c_laws_heldListedS_r15 : List GOp := [⟨some 5, none, .asg false (.c (.int .i64 0))⟩]
def c_laws_heldListedS_r16 : List GOp := [⟨some 4, none, .asg false (.c (.int .i64 0))⟩]
def c_laws_heldListedS : CC := .seq (.reg none c_laws_heldListedS_r16 [0, 1]) (.seq (.seq (.reg none c_laws_heldListedS_r15 [0, 1, 5]) (.blk 0 (.loop c_laws_heldListedS_b0 [0, 1, 5]))) (.seq (.reg none c_laws_heldListedS_r0 [4]) (.ret)))
abbrev L_laws_heldListedS_0 (P : Program) (E : Env) (r : List RV) : Prop := Run P [.tmp 4] (.code c_laws_heldListedS_b0 :: .lp c_laws_heldListedS_b0 [0, 1, 5] :: [.blk 0, .code (.seq (.reg none c_laws_heldListedS_r0 [4]) (.ret))]) E r
theorem k_laws_heldListedS : chkF Tryz.prog Tryz.f68 c_laws_heldListedS [.tmp 4] = true := by kernel_rfl
theorem S_laws_heldListedS {args : List AV} {r : List RV} (hs : sizeXs Tryz.prog Tryz.f68.results.toList r = true) (hn : args.length ≤ 50) (h : Run Tryz.prog [.tmp 4] [.code c_laws_heldListedS] (argEnv args 0) r) : CallsOK Tryz.prog F_laws_heldListedS args r := callsOK Tryz.func68 k_laws_heldListedS hs hn h

-- loop.example/g03003/laws.heldMeaningS
def c_laws_heldMeaningS_r0 : List GOp := [⟨some 31, none, .mv (.t 1)⟩,
  ⟨some 4, none, .asg true (.t 31)⟩]
def c_laws_heldMeaningS_r1 : List GOp := [⟨some 10, none, .mv (.t 5)⟩,
  ⟨some 11, none, .bin .add (.t 10) (.c (.int .i64 1))⟩,
  ⟨some 5, none, .asg true (.t 11)⟩]
def c_laws_heldMeaningS_r2 : List GOp := [⟨some 29, none, .mv (.t 1)⟩,
  ⟨some 30, none, .bin .add (.t 29) (.c (.int .i64 1))⟩,
  ⟨some 1, none, .asg true (.t 30)⟩]
def c_laws_heldMeaningS_r3 : List GOp := [⟨some 4, none, .asg false (.c (.int .i64 (-1)))⟩]
def c_laws_heldMeaningS_r4 : List GOp := [⟨some 22, none, .mv (.t 0)⟩,
  ⟨some 23, none, .mv (.t 5)⟩,
  ⟨some 24, none, .idx 2 (.t 22) (.t 23)⟩,
  ⟨some 25, none, .fld (.t 24) 1⟩,
  ⟨some 26, none, .ld (.t 25)⟩,
  ⟨some 27, none, .mv (.t 1)⟩,
  ⟨some 28, none, .bin .neq (.t 26) (.t 27)⟩]
def c_laws_heldMeaningS_r5 : List GOp := [⟨some 20, none, .mv (.t 1)⟩,
  ⟨some 21, none, .bin .add (.t 20) (.c (.int .i64 1))⟩,
  ⟨some 1, none, .asg true (.t 21)⟩]
def c_laws_heldMeaningS_r6 : List GOp := [⟨some 4, none, .asg false (.c (.int .i64 (-1)))⟩]
def c_laws_heldMeaningS_r7 : List GOp := [⟨some 12, none, .mv (.t 0)⟩,
  ⟨some 13, none, .mv (.t 5)⟩,
  ⟨some 14, none, .idx 2 (.t 12) (.t 13)⟩,
  ⟨some 15, none, .fld (.t 14) 0⟩,
  ⟨some 16, none, .ld (.t 15)⟩,
  ⟨some 17, none, .mv (.t 1)⟩,
  ⟨some 18, none, .call F_laws_markText [.t 17]⟩,
  ⟨some 19, none, .bin .neq (.t 16) (.t 18)⟩]
def c_laws_heldMeaningS_r8 : List GOp := [⟨some 6, none, .mv (.t 5)⟩,
  ⟨some 7, none, .mv (.t 0)⟩,
  ⟨some 8, none, .len (.t 7)⟩,
  ⟨some 9, none, .bin .lss (.t 6) (.t 8)⟩]
def c_laws_heldMeaningS_b0 : CC := .seq (.seq (.reg none c_laws_heldMeaningS_r8 [0, 1, 5, 9]) (.cnd (.t 9) (.skip) (.exit 0))) (.seq (.blk 1 (.seq (.seq (.reg (some (8, [[], [], [0, 1], [0, 1, 2], [0, 1, 2, 3], [], [5], [0, 1, 2, 3, 4, 5, 6]])) c_laws_heldMeaningS_r7 [0, 1, 5, 19]) (.cnd (.t 19) (.seq (.reg none c_laws_heldMeaningS_r6 [4]) (.ret)) (.skip))) (.seq (.reg none c_laws_heldMeaningS_r5 [0, 1, 5]) (.seq (.seq (.reg none c_laws_heldMeaningS_r4 [0, 1, 5, 28]) (.cnd (.t 28) (.seq (.reg none c_laws_heldMeaningS_r3 [4]) (.ret)) (.skip))) (.reg none c_laws_heldMeaningS_r2 [0, 1, 5]))))) (.reg none c_laws_heldMeaningS_r1 [0, 1, 5]))
def c_laws_heldMeaningS_r9 : List GOp := [⟨some 5, none, .asg false (.c (.int .i64 0))⟩]
def c_laws_heldMeaningS_r10 : List GOp := [⟨some 4, none, .asg false (.c (.int .i64 0))⟩]
def c_laws_heldMeaningS : CC := .seq (.reg none c_laws_heldMeaningS_r10 [0, 1]) (.seq (.seq (.reg none c_laws_heldMeaningS_r9 [0, 1, 5]) (.blk 0 (.loop c_laws_heldMeaningS_b0 [0, 1, 5]))) (.seq (.reg none c_laws_heldMeaningS_r0 [4]) (.ret)))
abbrev L_laws_heldMeaningS_0 (P : Program) (E : Env) (r : List RV) : Prop := Run P [.tmp 4] (.code c_laws_heldMeaningS_b0 :: .lp c_laws_heldMeaningS_b0 [0, 1, 5] :: [.blk 0, .code (.seq (.reg none c_laws_heldMeaningS_r0 [4]) (.ret))]) E r
theorem k_laws_heldMeaningS : chkF Tryz.prog Tryz.f69 c_laws_heldMeaningS [.tmp 4] = true := by kernel_rfl
theorem S_laws_heldMeaningS {args : List AV} {r : List RV} (hs : sizeXs Tryz.prog Tryz.f69.results.toList r = true) (hn : args.length ≤ 32) (h : Run Tryz.prog [.tmp 4] [.code c_laws_heldMeaningS] (argEnv args 0) r) : CallsOK Tryz.prog F_laws_heldMeaningS args r := callsOK Tryz.func69 k_laws_heldMeaningS hs hn h

-- loop.example/g03003/laws.heldDraft
def c_laws_heldDraft_r0 : List GOp := [⟨some 11, none, .mv (.t 1)⟩,
  ⟨some 4, none, .asg true (.t 11)⟩]
def c_laws_heldDraft_r1 : List GOp := [⟨some 4, none, .asg false (.c (.int .i64 (-1)))⟩]
def c_laws_heldDraft_r2 : List GOp := [⟨some 9, none, .mv (.t 1)⟩,
  ⟨some 10, none, .bin .lss (.t 9) (.c (.int .i64 0))⟩]
def c_laws_heldDraft_r3 : List GOp := [⟨some 5, none, .fld (.t 2) 4⟩,
  ⟨some 6, none, .ld (.t 5)⟩,
  ⟨some 7, none, .mv (.t 1)⟩,
  ⟨some 8, none, .call F_laws_heldClueS [.t 6, .t 7]⟩,
  ⟨some 1, none, .asg true (.t 8)⟩]
def c_laws_heldDraft_r4 : List GOp := [⟨some 2, none, .box (.t 0)⟩,
  ⟨some 4, none, .asg false (.c (.int .i64 0))⟩]
def c_laws_heldDraft : CC := .seq (.reg none c_laws_heldDraft_r4 [1, 2]) (.seq (.reg none c_laws_heldDraft_r3 [1]) (.seq (.seq (.reg none c_laws_heldDraft_r2 [1, 10]) (.cnd (.t 10) (.seq (.reg none c_laws_heldDraft_r1 [4]) (.ret)) (.skip))) (.seq (.reg none c_laws_heldDraft_r0 [4]) (.ret))))
theorem k_laws_heldDraft : chkF Tryz.prog Tryz.f70 c_laws_heldDraft [.tmp 4] = true := by kernel_rfl
theorem S_laws_heldDraft {args : List AV} {r : List RV} (hs : sizeXs Tryz.prog Tryz.f70.results.toList r = true) (hn : args.length ≤ 12) (h : Run Tryz.prog [.tmp 4] [.code c_laws_heldDraft] (argEnv args 0) r) : CallsOK Tryz.prog F_laws_heldDraft args r := callsOK Tryz.func70 k_laws_heldDraft hs hn h

-- loop.example/g03003/laws.heldIssueS
def c_laws_heldIssueS_r0 : List GOp := [⟨some 113, none, .mv (.t 1)⟩,
  ⟨some 4, none, .asg true (.t 113)⟩]
def c_laws_heldIssueS_r1 : List GOp := [⟨some 10, none, .mv (.t 5)⟩,
  ⟨some 11, none, .bin .add (.t 10) (.c (.int .i64 1))⟩,
  ⟨some 5, none, .asg true (.t 11)⟩]
def c_laws_heldIssueS_r2 : List GOp := [⟨some 111, none, .mv (.t 1)⟩,
  ⟨some 112, none, .bin .add (.t 111) (.c (.int .i64 1))⟩,
  ⟨some 1, none, .asg true (.t 112)⟩]
def c_laws_heldIssueS_r3 : List GOp := [⟨some 4, none, .asg false (.c (.int .i64 (-1)))⟩]
def c_laws_heldIssueS_r4 : List GOp := [⟨some 104, none, .mv (.t 0)⟩,
  ⟨some 105, none, .mv (.t 5)⟩,
  ⟨some 106, none, .idx 10 (.t 104) (.t 105)⟩,
  ⟨some 107, none, .fld (.t 106) 9⟩,
  ⟨some 108, none, .ld (.t 107)⟩,
  ⟨some 109, none, .mv (.t 1)⟩,
  ⟨some 110, none, .bin .neq (.t 108) (.t 109)⟩]
def c_laws_heldIssueS_r5 : List GOp := [⟨some 102, none, .mv (.t 1)⟩,
  ⟨some 103, none, .bin .add (.t 102) (.c (.int .i64 1))⟩,
  ⟨some 1, none, .asg true (.t 103)⟩]
def c_laws_heldIssueS_r6 : List GOp := [⟨some 4, none, .asg false (.c (.int .i64 (-1)))⟩]
def c_laws_heldIssueS_r7 : List GOp := [⟨some 95, none, .mv (.t 0)⟩,
  ⟨some 96, none, .mv (.t 5)⟩,
  ⟨some 97, none, .idx 10 (.t 95) (.t 96)⟩,
  ⟨some 98, none, .fld (.t 97) 8⟩,
  ⟨some 99, none, .ld (.t 98)⟩,
  ⟨some 100, none, .mv (.t 1)⟩,
  ⟨some 101, none, .bin .neq (.t 99) (.t 100)⟩]
def c_laws_heldIssueS_r8 : List GOp := [⟨some 93, none, .mv (.t 1)⟩,
  ⟨some 94, none, .bin .add (.t 93) (.c (.int .i64 1))⟩,
  ⟨some 1, none, .asg true (.t 94)⟩]
def c_laws_heldIssueS_r9 : List GOp := [⟨some 4, none, .asg false (.c (.int .i64 (-1)))⟩]
def c_laws_heldIssueS_r10 : List GOp := [⟨some 85, none, .mv (.t 0)⟩,
  ⟨some 86, none, .mv (.t 5)⟩,
  ⟨some 87, none, .idx 10 (.t 85) (.t 86)⟩,
  ⟨some 88, none, .fld (.t 87) 7⟩,
  ⟨some 89, none, .ld (.t 88)⟩,
  ⟨some 90, none, .mv (.t 1)⟩,
  ⟨some 91, none, .call F_laws_markText [.t 90]⟩,
  ⟨some 92, none, .bin .neq (.t 89) (.t 91)⟩]
def c_laws_heldIssueS_r11 : List GOp := [⟨some 83, none, .mv (.t 1)⟩,
  ⟨some 84, none, .bin .add (.t 83) (.c (.int .i64 1))⟩,
  ⟨some 1, none, .asg true (.t 84)⟩]
def c_laws_heldIssueS_r12 : List GOp := [⟨some 4, none, .asg false (.c (.int .i64 (-1)))⟩]
def c_laws_heldIssueS_r13 : List GOp := [⟨some 75, none, .mv (.t 0)⟩,
  ⟨some 76, none, .mv (.t 5)⟩,
  ⟨some 77, none, .idx 10 (.t 75) (.t 76)⟩,
  ⟨some 78, none, .fld (.t 77) 1⟩,
  ⟨some 79, none, .fld (.t 78) 5⟩,
  ⟨some 80, none, .ld (.t 79)⟩,
  ⟨some 81, none, .mv (.t 1)⟩,
  ⟨some 82, none, .bin .neq (.t 80) (.t 81)⟩]
def c_laws_heldIssueS_r14 : List GOp := [⟨some 4, none, .asg false (.c (.int .i64 (-1)))⟩]
def c_laws_heldIssueS_r15 : List GOp := [⟨some 73, none, .mv (.t 1)⟩,
  ⟨some 74, none, .bin .lss (.t 73) (.c (.int .i64 0))⟩]
def c_laws_heldIssueS_r16 : List GOp := [⟨some 65, none, .mv (.t 0)⟩,
  ⟨some 66, none, .mv (.t 5)⟩,
  ⟨some 67, none, .idx 10 (.t 65) (.t 66)⟩,
  ⟨some 68, none, .fld (.t 67) 1⟩,
  ⟨some 69, none, .fld (.t 68) 4⟩,
  ⟨some 70, none, .ld (.t 69)⟩,
  ⟨some 71, none, .mv (.t 1)⟩,
  ⟨some 72, none, .call F_laws_heldIntS [.t 70, .t 71]⟩,
  ⟨some 1, none, .asg true (.t 72)⟩]
def c_laws_heldIssueS_r17 : List GOp := [⟨some 4, none, .asg false (.c (.int .i64 (-1)))⟩]
def c_laws_heldIssueS_r18 : List GOp := [⟨some 63, none, .mv (.t 1)⟩,
  ⟨some 64, none, .bin .lss (.t 63) (.c (.int .i64 0))⟩]
def c_laws_heldIssueS_r19 : List GOp := [⟨some 55, none, .mv (.t 0)⟩,
  ⟨some 56, none, .mv (.t 5)⟩,
  ⟨some 57, none, .idx 10 (.t 55) (.t 56)⟩,
  ⟨some 58, none, .fld (.t 57) 1⟩,
  ⟨some 59, none, .fld (.t 58) 3⟩,
  ⟨some 60, none, .ld (.t 59)⟩,
  ⟨some 61, none, .mv (.t 1)⟩,
  ⟨some 62, none, .call F_laws_heldClueS [.t 60, .t 61]⟩,
  ⟨some 1, none, .asg true (.t 62)⟩]
def c_laws_heldIssueS_r20 : List GOp := [⟨some 53, none, .mv (.t 1)⟩,
  ⟨some 54, none, .bin .add (.t 53) (.c (.int .i64 1))⟩,
  ⟨some 1, none, .asg true (.t 54)⟩]
def c_laws_heldIssueS_r21 : List GOp := [⟨some 4, none, .asg false (.c (.int .i64 (-1)))⟩]
def c_laws_heldIssueS_r22 : List GOp := [⟨some 43, none, .mv (.t 0)⟩,
  ⟨some 44, none, .mv (.t 5)⟩,
  ⟨some 45, none, .idx 10 (.t 43) (.t 44)⟩,
  ⟨some 46, none, .fld (.t 45) 1⟩,
  ⟨some 47, none, .fld (.t 46) 0⟩,
  ⟨some 48, none, .fld (.t 47) 2⟩,
  ⟨some 49, none, .ld (.t 48)⟩,
  ⟨some 50, none, .mv (.t 1)⟩,
  ⟨some 51, none, .call F_laws_markText [.t 50]⟩,
  ⟨some 52, none, .bin .neq (.t 49) (.t 51)⟩]
def c_laws_heldIssueS_r23 : List GOp := [⟨some 41, none, .mv (.t 1)⟩,
  ⟨some 42, none, .bin .add (.t 41) (.c (.int .i64 1))⟩,
  ⟨some 1, none, .asg true (.t 42)⟩]
def c_laws_heldIssueS_r24 : List GOp := [⟨some 4, none, .asg false (.c (.int .i64 (-1)))⟩]
def c_laws_heldIssueS_r25 : List GOp := [⟨some 32, none, .mv (.t 0)⟩,
  ⟨some 33, none, .mv (.t 5)⟩,
  ⟨some 34, none, .idx 10 (.t 32) (.t 33)⟩,
  ⟨some 35, none, .fld (.t 34) 1⟩,
  ⟨some 36, none, .fld (.t 35) 0⟩,
  ⟨some 37, none, .fld (.t 36) 1⟩,
  ⟨some 38, none, .ld (.t 37)⟩,
  ⟨some 39, none, .mv (.t 1)⟩,
  ⟨some 40, none, .bin .neq (.t 38) (.t 39)⟩]
def c_laws_heldIssueS_r26 : List GOp := [⟨some 30, none, .mv (.t 1)⟩,
  ⟨some 31, none, .bin .add (.t 30) (.c (.int .i64 1))⟩,
  ⟨some 1, none, .asg true (.t 31)⟩]
def c_laws_heldIssueS_r27 : List GOp := [⟨some 4, none, .asg false (.c (.int .i64 (-1)))⟩]
def c_laws_heldIssueS_r28 : List GOp := [⟨some 21, none, .mv (.t 0)⟩,
  ⟨some 22, none, .mv (.t 5)⟩,
  ⟨some 23, none, .idx 10 (.t 21) (.t 22)⟩,
  ⟨some 24, none, .fld (.t 23) 1⟩,
  ⟨some 25, none, .fld (.t 24) 0⟩,
  ⟨some 26, none, .fld (.t 25) 0⟩,
  ⟨some 27, none, .ld (.t 26)⟩,
  ⟨some 28, none, .mv (.t 1)⟩,
  ⟨some 29, none, .bin .neq (.t 27) (.t 28)⟩]
def c_laws_heldIssueS_r29 : List GOp := [⟨some 19, none, .mv (.t 1)⟩,
  ⟨some 20, none, .bin .add (.t 19) (.c (.int .i64 1))⟩,
  ⟨some 1, none, .asg true (.t 20)⟩]
def c_laws_heldIssueS_r30 : List GOp := [⟨some 4, none, .asg false (.c (.int .i64 (-1)))⟩]
def c_laws_heldIssueS_r31 : List GOp := [⟨some 12, none, .mv (.t 0)⟩,
  ⟨some 13, none, .mv (.t 5)⟩,
  ⟨some 14, none, .idx 10 (.t 12) (.t 13)⟩,
  ⟨some 15, none, .fld (.t 14) 0⟩,
  ⟨some 16, none, .ld (.t 15)⟩,
  ⟨some 17, none, .mv (.t 1)⟩,
  ⟨some 18, none, .bin .neq (.t 16) (.t 17)⟩]
def c_laws_heldIssueS_r32 : List GOp := [⟨some 6, none, .mv (.t 5)⟩,
  ⟨some 7, none, .mv (.t 0)⟩,
  ⟨some 8, none, .len (.t 7)⟩,
  ⟨some 9, none, .bin .lss (.t 6) (.t 8)⟩]
def c_laws_heldIssueS_b0 : CC := .seq (.seq (.reg none c_laws_heldIssueS_r32 [0, 1, 5, 9]) (.cnd (.t 9) (.skip) (.exit 0))) (.seq (.blk 1 (.seq (.seq (.reg none c_laws_heldIssueS_r31 [0, 1, 5, 18]) (.cnd (.t 18) (.seq (.reg none c_laws_heldIssueS_r30 [4]) (.ret)) (.skip))) (.seq (.reg none c_laws_heldIssueS_r29 [0, 1, 5]) (.seq (.seq (.reg none c_laws_heldIssueS_r28 [0, 1, 5, 29]) (.cnd (.t 29) (.seq (.reg none c_laws_heldIssueS_r27 [4]) (.ret)) (.skip))) (.seq (.reg none c_laws_heldIssueS_r26 [0, 1, 5]) (.seq (.seq (.reg none c_laws_heldIssueS_r25 [0, 1, 5, 40]) (.cnd (.t 40) (.seq (.reg none c_laws_heldIssueS_r24 [4]) (.ret)) (.skip))) (.seq (.reg none c_laws_heldIssueS_r23 [0, 1, 5]) (.seq (.seq (.reg (some (10, [[], [], [0, 1], [0, 1, 2], [0, 1, 2, 3], [0, 1, 2, 3, 4], [0, 1, 2, 3, 4, 5], [], [7], [0, 1, 2, 3, 4, 5, 6, 7, 8]])) c_laws_heldIssueS_r22 [0, 1, 5, 52]) (.cnd (.t 52) (.seq (.reg none c_laws_heldIssueS_r21 [4]) (.ret)) (.skip))) (.seq (.reg none c_laws_heldIssueS_r20 [0, 1, 5]) (.seq (.reg none c_laws_heldIssueS_r19 [0, 1, 5]) (.seq (.seq (.reg none c_laws_heldIssueS_r18 [0, 1, 5, 64]) (.cnd (.t 64) (.seq (.reg none c_laws_heldIssueS_r17 [4]) (.ret)) (.skip))) (.seq (.reg none c_laws_heldIssueS_r16 [0, 1, 5]) (.seq (.seq (.reg none c_laws_heldIssueS_r15 [0, 1, 5, 74]) (.cnd (.t 74) (.seq (.reg none c_laws_heldIssueS_r14 [4]) (.ret)) (.skip))) (.seq (.seq (.reg none c_laws_heldIssueS_r13 [0, 1, 5, 82]) (.cnd (.t 82) (.seq (.reg none c_laws_heldIssueS_r12 [4]) (.ret)) (.skip))) (.seq (.reg none c_laws_heldIssueS_r11 [0, 1, 5]) (.seq (.seq (.reg (some (8, [[], [], [0, 1], [0, 1, 2], [0, 1, 2, 3], [], [5], [0, 1, 2, 3, 4, 5, 6]])) c_laws_heldIssueS_r10 [0, 1, 5, 92]) (.cnd (.t 92) (.seq (.reg none c_laws_heldIssueS_r9 [4]) (.ret)) (.skip))) (.seq (.reg none c_laws_heldIssueS_r8 [0, 1, 5]) (.seq (.seq (.reg none c_laws_heldIssueS_r7 [0, 1, 5, 101]) (.cnd (.t 101) (.seq (.reg none c_laws_heldIssueS_r6 [4]) (.ret)) (.skip))) (.seq (.reg none c_laws_heldIssueS_r5 [0, 1, 5]) (.seq (.seq (.reg none c_laws_heldIssueS_r4 [0, 1, 5, 110]) (.cnd (.t 110) (.seq (.reg none c_laws_heldIssueS_r3 [4]) (.ret)) (.skip))) (.reg none c_laws_heldIssueS_r2 [0, 1, 5]))))))))))))))))))))) (.reg none c_laws_heldIssueS_r1 [0, 1, 5]))
def c_laws_heldIssueS_r33 : List GOp := [⟨some 5, none, .asg false (.c (.int .i64 0))⟩]
def c_laws_heldIssueS_r34 : List GOp := [⟨some 4, none, .asg false (.c (.int .i64 0))⟩]
def c_laws_heldIssueS : CC := .seq (.reg none c_laws_heldIssueS_r34 [0, 1]) (.seq (.seq (.reg none c_laws_heldIssueS_r33 [0, 1, 5]) (.blk 0 (.loop c_laws_heldIssueS_b0 [0, 1, 5]))) (.seq (.reg none c_laws_heldIssueS_r0 [4]) (.ret)))
abbrev L_laws_heldIssueS_0 (P : Program) (E : Env) (r : List RV) : Prop := Run P [.tmp 4] (.code c_laws_heldIssueS_b0 :: .lp c_laws_heldIssueS_b0 [0, 1, 5] :: [.blk 0, .code (.seq (.reg none c_laws_heldIssueS_r0 [4]) (.ret))]) E r
theorem k_laws_heldIssueS : chkF Tryz.prog Tryz.f71 c_laws_heldIssueS [.tmp 4] = true := by kernel_rfl
theorem S_laws_heldIssueS {args : List AV} {r : List RV} (hs : sizeXs Tryz.prog Tryz.f71.results.toList r = true) (hn : args.length ≤ 114) (h : Run Tryz.prog [.tmp 4] [.code c_laws_heldIssueS] (argEnv args 0) r) : CallsOK Tryz.prog F_laws_heldIssueS args r := callsOK Tryz.func71 k_laws_heldIssueS hs hn h

-- loop.example/g03003/laws.heldUsedS
def c_laws_heldUsedS_r0 : List GOp := [⟨some 31, none, .mv (.t 1)⟩,
  ⟨some 4, none, .asg true (.t 31)⟩]
def c_laws_heldUsedS_r1 : List GOp := [⟨some 10, none, .mv (.t 5)⟩,
  ⟨some 11, none, .bin .add (.t 10) (.c (.int .i64 1))⟩,
  ⟨some 5, none, .asg true (.t 11)⟩]
def c_laws_heldUsedS_r2 : List GOp := [⟨some 29, none, .mv (.t 1)⟩,
  ⟨some 30, none, .bin .add (.t 29) (.c (.int .i64 1))⟩,
  ⟨some 1, none, .asg true (.t 30)⟩]
def c_laws_heldUsedS_r3 : List GOp := [⟨some 4, none, .asg false (.c (.int .i64 (-1)))⟩]
def c_laws_heldUsedS_r4 : List GOp := [⟨some 22, none, .mv (.t 0)⟩,
  ⟨some 23, none, .mv (.t 5)⟩,
  ⟨some 24, none, .idx 2 (.t 22) (.t 23)⟩,
  ⟨some 25, none, .fld (.t 24) 1⟩,
  ⟨some 26, none, .ld (.t 25)⟩,
  ⟨some 27, none, .mv (.t 1)⟩,
  ⟨some 28, none, .bin .neq (.t 26) (.t 27)⟩]
def c_laws_heldUsedS_r5 : List GOp := [⟨some 20, none, .mv (.t 1)⟩,
  ⟨some 21, none, .bin .add (.t 20) (.c (.int .i64 1))⟩,
  ⟨some 1, none, .asg true (.t 21)⟩]
def c_laws_heldUsedS_r6 : List GOp := [⟨some 4, none, .asg false (.c (.int .i64 (-1)))⟩]
def c_laws_heldUsedS_r7 : List GOp := [⟨some 12, none, .mv (.t 0)⟩,
  ⟨some 13, none, .mv (.t 5)⟩,
  ⟨some 14, none, .idx 2 (.t 12) (.t 13)⟩,
  ⟨some 15, none, .fld (.t 14) 0⟩,
  ⟨some 16, none, .ld (.t 15)⟩,
  ⟨some 17, none, .mv (.t 1)⟩,
  ⟨some 18, none, .call F_laws_markText [.t 17]⟩,
  ⟨some 19, none, .bin .neq (.t 16) (.t 18)⟩]
def c_laws_heldUsedS_r8 : List GOp := [⟨some 6, none, .mv (.t 5)⟩,
  ⟨some 7, none, .mv (.t 0)⟩,
  ⟨some 8, none, .len (.t 7)⟩,
  ⟨some 9, none, .bin .lss (.t 6) (.t 8)⟩]
def c_laws_heldUsedS_b0 : CC := .seq (.seq (.reg none c_laws_heldUsedS_r8 [0, 1, 5, 9]) (.cnd (.t 9) (.skip) (.exit 0))) (.seq (.blk 1 (.seq (.seq (.reg (some (8, [[], [], [0, 1], [0, 1, 2], [0, 1, 2, 3], [], [5], [0, 1, 2, 3, 4, 5, 6]])) c_laws_heldUsedS_r7 [0, 1, 5, 19]) (.cnd (.t 19) (.seq (.reg none c_laws_heldUsedS_r6 [4]) (.ret)) (.skip))) (.seq (.reg none c_laws_heldUsedS_r5 [0, 1, 5]) (.seq (.seq (.reg none c_laws_heldUsedS_r4 [0, 1, 5, 28]) (.cnd (.t 28) (.seq (.reg none c_laws_heldUsedS_r3 [4]) (.ret)) (.skip))) (.reg none c_laws_heldUsedS_r2 [0, 1, 5]))))) (.reg none c_laws_heldUsedS_r1 [0, 1, 5]))
def c_laws_heldUsedS_r9 : List GOp := [⟨some 5, none, .asg false (.c (.int .i64 0))⟩]
def c_laws_heldUsedS_r10 : List GOp := [⟨some 4, none, .asg false (.c (.int .i64 0))⟩]
def c_laws_heldUsedS : CC := .seq (.reg none c_laws_heldUsedS_r10 [0, 1]) (.seq (.seq (.reg none c_laws_heldUsedS_r9 [0, 1, 5]) (.blk 0 (.loop c_laws_heldUsedS_b0 [0, 1, 5]))) (.seq (.reg none c_laws_heldUsedS_r0 [4]) (.ret)))
abbrev L_laws_heldUsedS_0 (P : Program) (E : Env) (r : List RV) : Prop := Run P [.tmp 4] (.code c_laws_heldUsedS_b0 :: .lp c_laws_heldUsedS_b0 [0, 1, 5] :: [.blk 0, .code (.seq (.reg none c_laws_heldUsedS_r0 [4]) (.ret))]) E r
theorem k_laws_heldUsedS : chkF Tryz.prog Tryz.f72 c_laws_heldUsedS [.tmp 4] = true := by kernel_rfl
theorem S_laws_heldUsedS {args : List AV} {r : List RV} (hs : sizeXs Tryz.prog Tryz.f72.results.toList r = true) (hn : args.length ≤ 32) (h : Run Tryz.prog [.tmp 4] [.code c_laws_heldUsedS] (argEnv args 0) r) : CallsOK Tryz.prog F_laws_heldUsedS args r := callsOK Tryz.func72 k_laws_heldUsedS hs hn h

-- loop.example/g03003/laws.heldCorrectionS
def c_laws_heldCorrectionS_r0 : List GOp := [⟨some 59, none, .mv (.t 1)⟩,
  ⟨some 4, none, .asg true (.t 59)⟩]
def c_laws_heldCorrectionS_r1 : List GOp := [⟨some 10, none, .mv (.t 5)⟩,
  ⟨some 11, none, .bin .add (.t 10) (.c (.int .i64 1))⟩,
  ⟨some 5, none, .asg true (.t 11)⟩]
def c_laws_heldCorrectionS_r2 : List GOp := [⟨some 57, none, .mv (.t 1)⟩,
  ⟨some 58, none, .bin .add (.t 57) (.c (.int .i64 1))⟩,
  ⟨some 1, none, .asg true (.t 58)⟩]
def c_laws_heldCorrectionS_r3 : List GOp := [⟨some 4, none, .asg false (.c (.int .i64 (-1)))⟩]
def c_laws_heldCorrectionS_r4 : List GOp := [⟨some 50, none, .mv (.t 0)⟩,
  ⟨some 51, none, .mv (.t 5)⟩,
  ⟨some 52, none, .idx 5 (.t 50) (.t 51)⟩,
  ⟨some 53, none, .fld (.t 52) 4⟩,
  ⟨some 54, none, .ld (.t 53)⟩,
  ⟨some 55, none, .mv (.t 1)⟩,
  ⟨some 56, none, .bin .neq (.t 54) (.t 55)⟩]
def c_laws_heldCorrectionS_r5 : List GOp := [⟨some 4, none, .asg false (.c (.int .i64 (-1)))⟩]
def c_laws_heldCorrectionS_r6 : List GOp := [⟨some 48, none, .mv (.t 1)⟩,
  ⟨some 49, none, .bin .lss (.t 48) (.c (.int .i64 0))⟩]
def c_laws_heldCorrectionS_r7 : List GOp := [⟨some 40, none, .mv (.t 0)⟩,
  ⟨some 41, none, .mv (.t 5)⟩,
  ⟨some 42, none, .idx 5 (.t 40) (.t 41)⟩,
  ⟨some 43, none, .fld (.t 42) 2⟩,
  ⟨some 44, none, .fld (.t 43) 1⟩,
  ⟨some 45, none, .ld (.t 44)⟩,
  ⟨some 46, none, .mv (.t 1)⟩,
  ⟨some 47, none, .call F_laws_heldStepS [.t 45, .t 46]⟩,
  ⟨some 1, none, .asg true (.t 47)⟩]
def c_laws_heldCorrectionS_r8 : List GOp := [⟨some 38, none, .mv (.t 1)⟩,
  ⟨some 39, none, .bin .add (.t 38) (.c (.int .i64 1))⟩,
  ⟨some 1, none, .asg true (.t 39)⟩]
def c_laws_heldCorrectionS_r9 : List GOp := [⟨some 4, none, .asg false (.c (.int .i64 (-1)))⟩]
def c_laws_heldCorrectionS_r10 : List GOp := [⟨some 30, none, .mv (.t 0)⟩,
  ⟨some 31, none, .mv (.t 5)⟩,
  ⟨some 32, none, .idx 5 (.t 30) (.t 31)⟩,
  ⟨some 33, none, .fld (.t 32) 2⟩,
  ⟨some 34, none, .fld (.t 33) 0⟩,
  ⟨some 35, none, .ld (.t 34)⟩,
  ⟨some 36, none, .mv (.t 1)⟩,
  ⟨some 37, none, .bin .neq (.t 35) (.t 36)⟩]
def c_laws_heldCorrectionS_r11 : List GOp := [⟨some 28, none, .mv (.t 1)⟩,
  ⟨some 29, none, .bin .add (.t 28) (.c (.int .i64 1))⟩,
  ⟨some 1, none, .asg true (.t 29)⟩]
def c_laws_heldCorrectionS_r12 : List GOp := [⟨some 4, none, .asg false (.c (.int .i64 (-1)))⟩]
def c_laws_heldCorrectionS_r13 : List GOp := [⟨some 21, none, .mv (.t 0)⟩,
  ⟨some 22, none, .mv (.t 5)⟩,
  ⟨some 23, none, .idx 5 (.t 21) (.t 22)⟩,
  ⟨some 24, none, .fld (.t 23) 1⟩,
  ⟨some 25, none, .ld (.t 24)⟩,
  ⟨some 26, none, .mv (.t 1)⟩,
  ⟨some 27, none, .bin .neq (.t 25) (.t 26)⟩]
def c_laws_heldCorrectionS_r14 : List GOp := [⟨some 19, none, .mv (.t 1)⟩,
  ⟨some 20, none, .bin .add (.t 19) (.c (.int .i64 1))⟩,
  ⟨some 1, none, .asg true (.t 20)⟩]
def c_laws_heldCorrectionS_r15 : List GOp := [⟨some 4, none, .asg false (.c (.int .i64 (-1)))⟩]
def c_laws_heldCorrectionS_r16 : List GOp := [⟨some 12, none, .mv (.t 0)⟩,
  ⟨some 13, none, .mv (.t 5)⟩,
  ⟨some 14, none, .idx 5 (.t 12) (.t 13)⟩,
  ⟨some 15, none, .fld (.t 14) 0⟩,
  ⟨some 16, none, .ld (.t 15)⟩,
  ⟨some 17, none, .mv (.t 1)⟩,
  ⟨some 18, none, .bin .neq (.t 16) (.t 17)⟩]
def c_laws_heldCorrectionS_r17 : List GOp := [⟨some 6, none, .mv (.t 5)⟩,
  ⟨some 7, none, .mv (.t 0)⟩,
  ⟨some 8, none, .len (.t 7)⟩,
  ⟨some 9, none, .bin .lss (.t 6) (.t 8)⟩]
def c_laws_heldCorrectionS_b0 : CC := .seq (.seq (.reg none c_laws_heldCorrectionS_r17 [0, 1, 5, 9]) (.cnd (.t 9) (.skip) (.exit 0))) (.seq (.blk 1 (.seq (.seq (.reg none c_laws_heldCorrectionS_r16 [0, 1, 5, 18]) (.cnd (.t 18) (.seq (.reg none c_laws_heldCorrectionS_r15 [4]) (.ret)) (.skip))) (.seq (.reg none c_laws_heldCorrectionS_r14 [0, 1, 5]) (.seq (.seq (.reg none c_laws_heldCorrectionS_r13 [0, 1, 5, 27]) (.cnd (.t 27) (.seq (.reg none c_laws_heldCorrectionS_r12 [4]) (.ret)) (.skip))) (.seq (.reg none c_laws_heldCorrectionS_r11 [0, 1, 5]) (.seq (.seq (.reg none c_laws_heldCorrectionS_r10 [0, 1, 5, 37]) (.cnd (.t 37) (.seq (.reg none c_laws_heldCorrectionS_r9 [4]) (.ret)) (.skip))) (.seq (.reg none c_laws_heldCorrectionS_r8 [0, 1, 5]) (.seq (.reg none c_laws_heldCorrectionS_r7 [0, 1, 5]) (.seq (.seq (.reg none c_laws_heldCorrectionS_r6 [0, 1, 5, 49]) (.cnd (.t 49) (.seq (.reg none c_laws_heldCorrectionS_r5 [4]) (.ret)) (.skip))) (.seq (.seq (.reg none c_laws_heldCorrectionS_r4 [0, 1, 5, 56]) (.cnd (.t 56) (.seq (.reg none c_laws_heldCorrectionS_r3 [4]) (.ret)) (.skip))) (.reg none c_laws_heldCorrectionS_r2 [0, 1, 5]))))))))))) (.reg none c_laws_heldCorrectionS_r1 [0, 1, 5]))
def c_laws_heldCorrectionS_r18 : List GOp := [⟨some 5, none, .asg false (.c (.int .i64 0))⟩]
def c_laws_heldCorrectionS_r19 : List GOp := [⟨some 4, none, .asg false (.c (.int .i64 0))⟩]
def c_laws_heldCorrectionS : CC := .seq (.reg none c_laws_heldCorrectionS_r19 [0, 1]) (.seq (.seq (.reg none c_laws_heldCorrectionS_r18 [0, 1, 5]) (.blk 0 (.loop c_laws_heldCorrectionS_b0 [0, 1, 5]))) (.seq (.reg none c_laws_heldCorrectionS_r0 [4]) (.ret)))
abbrev L_laws_heldCorrectionS_0 (P : Program) (E : Env) (r : List RV) : Prop := Run P [.tmp 4] (.code c_laws_heldCorrectionS_b0 :: .lp c_laws_heldCorrectionS_b0 [0, 1, 5] :: [.blk 0, .code (.seq (.reg none c_laws_heldCorrectionS_r0 [4]) (.ret))]) E r
theorem k_laws_heldCorrectionS : chkF Tryz.prog Tryz.f73 c_laws_heldCorrectionS [.tmp 4] = true := by kernel_rfl
theorem S_laws_heldCorrectionS {args : List AV} {r : List RV} (hs : sizeXs Tryz.prog Tryz.f73.results.toList r = true) (hn : args.length ≤ 60) (h : Run Tryz.prog [.tmp 4] [.code c_laws_heldCorrectionS] (argEnv args 0) r) : CallsOK Tryz.prog F_laws_heldCorrectionS args r := callsOK Tryz.func73 k_laws_heldCorrectionS hs hn h

-- loop.example/g03003/laws.heldEntryS
def c_laws_heldEntryS_r0 : List GOp := [⟨some 49, none, .mv (.t 1)⟩,
  ⟨some 4, none, .asg true (.t 49)⟩]
def c_laws_heldEntryS_r1 : List GOp := [⟨some 10, none, .mv (.t 5)⟩,
  ⟨some 11, none, .bin .add (.t 10) (.c (.int .i64 1))⟩,
  ⟨some 5, none, .asg true (.t 11)⟩]
def c_laws_heldEntryS_r2 : List GOp := [⟨some 47, none, .mv (.t 1)⟩,
  ⟨some 48, none, .bin .add (.t 47) (.c (.int .i64 1))⟩,
  ⟨some 1, none, .asg true (.t 48)⟩]
def c_laws_heldEntryS_r3 : List GOp := [⟨some 4, none, .asg false (.c (.int .i64 (-1)))⟩]
def c_laws_heldEntryS_r4 : List GOp := [⟨some 39, none, .mv (.t 0)⟩,
  ⟨some 40, none, .mv (.t 5)⟩,
  ⟨some 41, none, .idx 4 (.t 39) (.t 40)⟩,
  ⟨some 42, none, .fld (.t 41) 3⟩,
  ⟨some 43, none, .ld (.t 42)⟩,
  ⟨some 44, none, .mv (.t 1)⟩,
  ⟨some 45, none, .call F_laws_markText [.t 44]⟩,
  ⟨some 46, none, .bin .neq (.t 43) (.t 45)⟩]
def c_laws_heldEntryS_r5 : List GOp := [⟨some 37, none, .mv (.t 1)⟩,
  ⟨some 38, none, .bin .add (.t 37) (.c (.int .i64 1))⟩,
  ⟨some 1, none, .asg true (.t 38)⟩]
def c_laws_heldEntryS_r6 : List GOp := [⟨some 4, none, .asg false (.c (.int .i64 (-1)))⟩]
def c_laws_heldEntryS_r7 : List GOp := [⟨some 30, none, .mv (.t 0)⟩,
  ⟨some 31, none, .mv (.t 5)⟩,
  ⟨some 32, none, .idx 4 (.t 30) (.t 31)⟩,
  ⟨some 33, none, .fld (.t 32) 2⟩,
  ⟨some 34, none, .ld (.t 33)⟩,
  ⟨some 35, none, .mv (.t 1)⟩,
  ⟨some 36, none, .bin .neq (.t 34) (.t 35)⟩]
def c_laws_heldEntryS_r8 : List GOp := [⟨some 28, none, .mv (.t 1)⟩,
  ⟨some 29, none, .bin .add (.t 28) (.c (.int .i64 1))⟩,
  ⟨some 1, none, .asg true (.t 29)⟩]
def c_laws_heldEntryS_r9 : List GOp := [⟨some 4, none, .asg false (.c (.int .i64 (-1)))⟩]
def c_laws_heldEntryS_r10 : List GOp := [⟨some 21, none, .mv (.t 0)⟩,
  ⟨some 22, none, .mv (.t 5)⟩,
  ⟨some 23, none, .idx 4 (.t 21) (.t 22)⟩,
  ⟨some 24, none, .fld (.t 23) 1⟩,
  ⟨some 25, none, .ld (.t 24)⟩,
  ⟨some 26, none, .mv (.t 1)⟩,
  ⟨some 27, none, .bin .neq (.t 25) (.t 26)⟩]
def c_laws_heldEntryS_r11 : List GOp := [⟨some 19, none, .mv (.t 1)⟩,
  ⟨some 20, none, .bin .add (.t 19) (.c (.int .i64 1))⟩,
  ⟨some 1, none, .asg true (.t 20)⟩]
def c_laws_heldEntryS_r12 : List GOp := [⟨some 4, none, .asg false (.c (.int .i64 (-1)))⟩]
def c_laws_heldEntryS_r13 : List GOp := [⟨some 12, none, .mv (.t 0)⟩,
  ⟨some 13, none, .mv (.t 5)⟩,
  ⟨some 14, none, .idx 4 (.t 12) (.t 13)⟩,
  ⟨some 15, none, .fld (.t 14) 0⟩,
  ⟨some 16, none, .ld (.t 15)⟩,
  ⟨some 17, none, .mv (.t 1)⟩,
  ⟨some 18, none, .bin .neq (.t 16) (.t 17)⟩]
def c_laws_heldEntryS_r14 : List GOp := [⟨some 6, none, .mv (.t 5)⟩,
  ⟨some 7, none, .mv (.t 0)⟩,
  ⟨some 8, none, .len (.t 7)⟩,
  ⟨some 9, none, .bin .lss (.t 6) (.t 8)⟩]
def c_laws_heldEntryS_b0 : CC := .seq (.seq (.reg none c_laws_heldEntryS_r14 [0, 1, 5, 9]) (.cnd (.t 9) (.skip) (.exit 0))) (.seq (.blk 1 (.seq (.seq (.reg none c_laws_heldEntryS_r13 [0, 1, 5, 18]) (.cnd (.t 18) (.seq (.reg none c_laws_heldEntryS_r12 [4]) (.ret)) (.skip))) (.seq (.reg none c_laws_heldEntryS_r11 [0, 1, 5]) (.seq (.seq (.reg none c_laws_heldEntryS_r10 [0, 1, 5, 27]) (.cnd (.t 27) (.seq (.reg none c_laws_heldEntryS_r9 [4]) (.ret)) (.skip))) (.seq (.reg none c_laws_heldEntryS_r8 [0, 1, 5]) (.seq (.seq (.reg none c_laws_heldEntryS_r7 [0, 1, 5, 36]) (.cnd (.t 36) (.seq (.reg none c_laws_heldEntryS_r6 [4]) (.ret)) (.skip))) (.seq (.reg none c_laws_heldEntryS_r5 [0, 1, 5]) (.seq (.seq (.reg (some (8, [[], [], [0, 1], [0, 1, 2], [0, 1, 2, 3], [], [5], [0, 1, 2, 3, 4, 5, 6]])) c_laws_heldEntryS_r4 [0, 1, 5, 46]) (.cnd (.t 46) (.seq (.reg none c_laws_heldEntryS_r3 [4]) (.ret)) (.skip))) (.reg none c_laws_heldEntryS_r2 [0, 1, 5]))))))))) (.reg none c_laws_heldEntryS_r1 [0, 1, 5]))
def c_laws_heldEntryS_r15 : List GOp := [⟨some 5, none, .asg false (.c (.int .i64 0))⟩]
def c_laws_heldEntryS_r16 : List GOp := [⟨some 4, none, .asg false (.c (.int .i64 0))⟩]
def c_laws_heldEntryS : CC := .seq (.reg none c_laws_heldEntryS_r16 [0, 1]) (.seq (.seq (.reg none c_laws_heldEntryS_r15 [0, 1, 5]) (.blk 0 (.loop c_laws_heldEntryS_b0 [0, 1, 5]))) (.seq (.reg none c_laws_heldEntryS_r0 [4]) (.ret)))
abbrev L_laws_heldEntryS_0 (P : Program) (E : Env) (r : List RV) : Prop := Run P [.tmp 4] (.code c_laws_heldEntryS_b0 :: .lp c_laws_heldEntryS_b0 [0, 1, 5] :: [.blk 0, .code (.seq (.reg none c_laws_heldEntryS_r0 [4]) (.ret))]) E r
theorem k_laws_heldEntryS : chkF Tryz.prog Tryz.f74 c_laws_heldEntryS [.tmp 4] = true := by kernel_rfl
theorem S_laws_heldEntryS {args : List AV} {r : List RV} (hs : sizeXs Tryz.prog Tryz.f74.results.toList r = true) (hn : args.length ≤ 50) (h : Run Tryz.prog [.tmp 4] [.code c_laws_heldEntryS] (argEnv args 0) r) : CallsOK Tryz.prog F_laws_heldEntryS args r := callsOK Tryz.func74 k_laws_heldEntryS hs hn h

-- loop.example/g03003/laws.eqStepS
def c_laws_eqStepS_r0 : List GOp := [⟨some 4, none, .asg false (.c (.bool true))⟩]
def c_laws_eqStepS_r1 : List GOp := [⟨some 15, none, .mv (.t 5)⟩,
  ⟨some 16, none, .bin .add (.t 15) (.c (.int .i64 1))⟩,
  ⟨some 5, none, .asg true (.t 16)⟩]
def c_laws_eqStepS_r2 : List GOp := [⟨some 4, none, .asg false (.c (.bool false))⟩]
def c_laws_eqStepS_r3 : List GOp := [⟨some 17, none, .mv (.t 0)⟩,
  ⟨some 18, none, .mv (.t 5)⟩,
  ⟨some 19, none, .idx 4 (.t 17) (.t 18)⟩,
  ⟨some 20, none, .lda 4 (.t 19)⟩,
  ⟨some 21, none, .mv (.t 1)⟩,
  ⟨some 22, none, .mv (.t 5)⟩,
  ⟨some 23, none, .idx 4 (.t 21) (.t 22)⟩,
  ⟨some 24, none, .lda 4 (.t 23)⟩,
  ⟨some 25, none, .call F_laws_eqStep [.t 20, .t 24]⟩,
  ⟨some 26, none, .not (.t 25)⟩]
def c_laws_eqStepS_r4 : List GOp := [⟨some 11, none, .mv (.t 5)⟩,
  ⟨some 12, none, .mv (.t 0)⟩,
  ⟨some 13, none, .len (.t 12)⟩,
  ⟨some 14, none, .bin .lss (.t 11) (.t 13)⟩]
def c_laws_eqStepS_b0 : CC := .seq (.seq (.reg none c_laws_eqStepS_r4 [0, 1, 5, 14]) (.cnd (.t 14) (.skip) (.exit 0))) (.seq (.blk 1 (.seq (.reg (some (10, [[], [], [0, 1], [0, 1, 2], [], [], [4, 5], [4, 5, 6], [0, 1, 2, 3, 4, 5, 6, 7], [0, 1, 2, 3, 4, 5, 6, 7, 8]])) c_laws_eqStepS_r3 [0, 1, 5, 26]) (.cnd (.t 26) (.seq (.reg none c_laws_eqStepS_r2 [4]) (.ret)) (.skip)))) (.reg none c_laws_eqStepS_r1 [0, 1, 5]))
def c_laws_eqStepS_r5 : List GOp := [⟨some 5, none, .asg false (.c (.int .i64 0))⟩]
def c_laws_eqStepS_r6 : List GOp := [⟨some 4, none, .asg false (.c (.bool false))⟩]
def c_laws_eqStepS_r7 : List GOp := [⟨some 6, none, .mv (.t 0)⟩,
  ⟨some 7, none, .len (.t 6)⟩,
  ⟨some 8, none, .mv (.t 1)⟩,
  ⟨some 9, none, .len (.t 8)⟩,
  ⟨some 10, none, .bin .neq (.t 7) (.t 9)⟩]
def c_laws_eqStepS_r8 : List GOp := [⟨some 4, none, .asg false (.c (.bool false))⟩]
def c_laws_eqStepS : CC := .seq (.reg none c_laws_eqStepS_r8 [0, 1]) (.seq (.seq (.reg none c_laws_eqStepS_r7 [0, 1, 10]) (.cnd (.t 10) (.seq (.reg none c_laws_eqStepS_r6 [4]) (.ret)) (.skip))) (.seq (.seq (.reg none c_laws_eqStepS_r5 [0, 1, 5]) (.blk 0 (.loop c_laws_eqStepS_b0 [0, 1, 5]))) (.seq (.reg none c_laws_eqStepS_r0 [4]) (.ret))))
abbrev L_laws_eqStepS_0 (P : Program) (E : Env) (r : List RV) : Prop := Run P [.tmp 4] (.code c_laws_eqStepS_b0 :: .lp c_laws_eqStepS_b0 [0, 1, 5] :: [.blk 0, .code (.seq (.reg none c_laws_eqStepS_r0 [4]) (.ret))]) E r
theorem k_laws_eqStepS : chkF Tryz.prog Tryz.f89 c_laws_eqStepS [.tmp 4] = true := by kernel_rfl
theorem S_laws_eqStepS {args : List AV} {r : List RV} (hs : sizeXs Tryz.prog Tryz.f89.results.toList r = true) (hn : args.length ≤ 27) (h : Run Tryz.prog [.tmp 4] [.code c_laws_eqStepS] (argEnv args 0) r) : CallsOK Tryz.prog F_laws_eqStepS args r := callsOK Tryz.func89 k_laws_eqStepS hs hn h

-- loop.example/g03003/spec.l27Copy
def c_spec_l27Copy_r0 : List GOp := [⟨some 7, none, .lda 6 (.t 1)⟩,
  ⟨none, none, .sto 6 (.t 2) (.t 7)⟩]
def c_spec_l27Copy_r1 : List GOp := [⟨some 3, none, .fld (.t 1) 4⟩,
  ⟨some 4, none, .ld (.t 3)⟩,
  ⟨some 5, none, .call F_spec_l21Clues [.t 4]⟩,
  ⟨some 6, none, .fld (.t 1) 4⟩,
  ⟨none, none, .sto 1 (.t 6) (.t 5)⟩]
def c_spec_l27Copy_r2 : List GOp := [⟨some 1, none, .box (.t 0)⟩,
  ⟨some 2, none, .alc [.int .i64 0, .int .i64 0, .str [], .str [], .sl 2 [], .int .i64 0]⟩]
def c_spec_l27Copy : CC := .seq (.reg none c_spec_l27Copy_r2 [1, 2]) (.seq (.reg none c_spec_l27Copy_r1 [1, 2]) (.seq (.reg none c_spec_l27Copy_r0 [2]) (.ret)))
theorem k_spec_l27Copy : chkF Tryz.prog Tryz.f130 c_spec_l27Copy [.cella 2] = true := by kernel_rfl
theorem S_spec_l27Copy {args : List AV} {r : List RV} (hs : sizeXs Tryz.prog Tryz.f130.results.toList r = true) (hn : args.length ≤ 8) (h : Run Tryz.prog [.cella 2] [.code c_spec_l27Copy] (argEnv args 0) r) : CallsOK Tryz.prog F_spec_l27Copy args r := callsOK Tryz.func130 k_spec_l27Copy hs hn h

-- loop.example/g03003/spec.l31Copy
def c_spec_l31Copy_r0 : List GOp := [⟨some 25, none, .mv (.t 3)⟩,
  ⟨some 2, none, .asg true (.t 25)⟩]
def c_spec_l31Copy_r1 : List GOp := [⟨some 11, none, .mv (.t 4)⟩,
  ⟨some 12, none, .bin .add (.t 11) (.c (.int .i64 1))⟩,
  ⟨some 4, none, .asg true (.t 12)⟩]
def c_spec_l31Copy_r2 : List GOp := [⟨some 21, none, .mv (.t 3)⟩,
  ⟨some 22, none, .lda 5 (.t 5)⟩,
  ⟨some 23, none, .bsl 5 [.t 22]⟩,
  ⟨some 24, none, .app T_impl_Correction 5 56 (.t 21) (.t 23)⟩,
  ⟨some 3, none, .asg true (.t 24)⟩]
def c_spec_l31Copy_r3 : List GOp := [⟨some 17, none, .fld (.t 5) 2⟩,
  ⟨some 18, none, .lda 2 (.t 17)⟩,
  ⟨some 19, none, .call F_spec_l18Copy [.t 18]⟩,
  ⟨some 20, none, .fld (.t 5) 2⟩,
  ⟨none, none, .sto 2 (.t 20) (.t 19)⟩]
def c_spec_l31Copy_r4 : List GOp := [⟨some 13, none, .mv (.t 0)⟩,
  ⟨some 14, none, .mv (.t 4)⟩,
  ⟨some 15, none, .idx 5 (.t 13) (.t 14)⟩,
  ⟨some 16, none, .lda 5 (.t 15)⟩,
  ⟨some 5, none, .alc [.int .i64 0, .int .i64 0, .int .i64 0, .sl 4 [], .int .i64 0]⟩,
  ⟨none, none, .sto 5 (.t 5) (.t 16)⟩]
def c_spec_l31Copy_r5 : List GOp := [⟨some 7, none, .mv (.t 4)⟩,
  ⟨some 8, none, .mv (.t 0)⟩,
  ⟨some 9, none, .len (.t 8)⟩,
  ⟨some 10, none, .bin .lss (.t 7) (.t 9)⟩]
def c_spec_l31Copy_b0 : CC := .seq (.seq (.reg none c_spec_l31Copy_r5 [0, 3, 4, 10]) (.cnd (.t 10) (.skip) (.exit 0))) (.seq (.blk 1 (.seq (.reg none c_spec_l31Copy_r4 [0, 3, 4, 5]) (.seq (.reg none c_spec_l31Copy_r3 [0, 3, 4, 5]) (.reg none c_spec_l31Copy_r2 [0, 3, 4])))) (.reg none c_spec_l31Copy_r1 [0, 3, 4]))
def c_spec_l31Copy_r6 : List GOp := [⟨some 4, none, .asg false (.c (.int .i64 0))⟩]
def c_spec_l31Copy_r7 : List GOp := [⟨some 6, none, .bslo T_impl_Correction 5 56 []⟩,
  ⟨some 3, none, .asg true (.t 6)⟩]
def c_spec_l31Copy_r8 : List GOp := [⟨some 2, none, .nilo T_impl_Correction 5 56⟩]
def c_spec_l31Copy : CC := .seq (.reg none c_spec_l31Copy_r8 [0]) (.seq (.reg none c_spec_l31Copy_r7 [0, 3]) (.seq (.seq (.reg none c_spec_l31Copy_r6 [0, 3, 4]) (.blk 0 (.loop c_spec_l31Copy_b0 [0, 3, 4]))) (.seq (.reg none c_spec_l31Copy_r0 [2]) (.ret))))
abbrev L_spec_l31Copy_0 (P : Program) (E : Env) (r : List RV) : Prop := Run P [.tmp 2] (.code c_spec_l31Copy_b0 :: .lp c_spec_l31Copy_b0 [0, 3, 4] :: [.blk 0, .code (.seq (.reg none c_spec_l31Copy_r0 [2]) (.ret))]) E r
theorem k_spec_l31Copy : chkF Tryz.prog Tryz.f131 c_spec_l31Copy [.tmp 2] = true := by kernel_rfl
theorem S_spec_l31Copy {args : List AV} {r : List RV} (hs : sizeXs Tryz.prog Tryz.f131.results.toList r = true) (hn : args.length ≤ 26) (h : Run Tryz.prog [.tmp 2] [.code c_spec_l31Copy] (argEnv args 0) r) : CallsOK Tryz.prog F_spec_l31Copy args r := callsOK Tryz.func131 k_spec_l31Copy hs hn h

-- loop.example/g03003/spec.IsList
def c_spec_IsList_r0 : List GOp := [⟨some 58, none, .mv (.t 0)⟩,
  ⟨some 59, none, .len (.t 58)⟩,
  ⟨some 60, none, .bin .leq (.t 59) (.c (.int .i64 40))⟩,
  ⟨some 2, none, .asg true (.t 60)⟩]
def c_spec_IsList_r1 : List GOp := [⟨some 9, none, .mv (.t 3)⟩,
  ⟨some 10, none, .bin .add (.t 9) (.c (.int .i64 1))⟩,
  ⟨some 3, none, .asg true (.t 10)⟩]
def c_spec_IsList_r2 : List GOp := [⟨some 2, none, .asg false (.c (.bool false))⟩]
def c_spec_IsList_r3 : List GOp := [⟨some 15, none, .fld (.t 4) 0⟩,
  ⟨some 16, none, .ld (.t 15)⟩,
  ⟨some 17, none, .call F_spec_IsWord [.t 16]⟩,
  ⟨some 18, none, .not (.t 17)⟩,
  ⟨some 19, none, .mv (.t 18)⟩,
  ⟨some 20, some (19, false), .fld (.t 4) 1⟩,
  ⟨some 21, some (19, false), .ld (.t 20)⟩,
  ⟨some 22, some (19, false), .bin .lss (.t 21) (.c (.int .i64 0))⟩,
  ⟨some 23, none, .pick (.t 19) (.c (.bool true)) (.t 22)⟩,
  ⟨some 24, none, .mv (.t 23)⟩,
  ⟨some 25, some (24, false), .fld (.t 4) 1⟩,
  ⟨some 26, some (24, false), .ld (.t 25)⟩,
  ⟨some 27, some (24, false), .fld (.t 4) 2⟩,
  ⟨some 28, some (24, false), .ld (.t 27)⟩,
  ⟨some 29, some (24, false), .bin .gtr (.t 26) (.t 28)⟩,
  ⟨some 30, none, .pick (.t 24) (.c (.bool true)) (.t 29)⟩,
  ⟨some 31, none, .mv (.t 30)⟩,
  ⟨some 32, some (31, false), .fld (.t 4) 2⟩,
  ⟨some 33, some (31, false), .ld (.t 32)⟩,
  ⟨some 34, some (31, false), .bin .gtr (.t 33) (.c (.int .i64 1000))⟩,
  ⟨some 35, none, .pick (.t 31) (.c (.bool true)) (.t 34)⟩,
  ⟨some 36, none, .mv (.t 35)⟩,
  ⟨some 37, some (36, false), .fld (.t 4) 3⟩,
  ⟨some 38, some (36, false), .ld (.t 37)⟩,
  ⟨some 39, some (36, false), .call F_spec_l1In [.t 38, .c (.int .i64 0), .c (.int .i64 99)]⟩,
  ⟨some 40, some (36, false), .not (.t 39)⟩,
  ⟨some 41, none, .pick (.t 36) (.c (.bool true)) (.t 40)⟩,
  ⟨some 42, none, .mv (.t 41)⟩,
  ⟨some 43, some (42, false), .mv (.t 3)⟩,
  ⟨some 44, some (42, false), .bin .gtr (.t 43) (.c (.int .i64 0))⟩,
  ⟨some 45, some (42, false), .mv (.t 44)⟩,
  ⟨some 46, some (45, true), .mv (.t 0)⟩,
  ⟨some 47, some (45, true), .mv (.t 3)⟩,
  ⟨some 48, some (45, true), .bin .sub (.t 47) (.c (.int .i64 1))⟩,
  ⟨some 49, some (45, true), .idx 4 (.t 46) (.t 48)⟩,
  ⟨some 50, some (45, true), .fld (.t 49) 0⟩,
  ⟨some 51, some (45, true), .ld (.t 50)⟩,
  ⟨some 52, some (45, true), .fld (.t 4) 0⟩,
  ⟨some 53, some (45, true), .ld (.t 52)⟩,
  ⟨some 54, some (45, true), .call F_spec_BeforeWord [.t 51, .t 53]⟩,
  ⟨some 55, some (45, true), .not (.t 54)⟩,
  ⟨some 56, some (42, false), .pick (.t 45) (.t 55) (.c (.bool false))⟩,
  ⟨some 57, none, .pick (.t 42) (.c (.bool true)) (.t 56)⟩]
def c_spec_IsList_r4 : List GOp := [⟨some 11, none, .mv (.t 0)⟩,
  ⟨some 12, none, .mv (.t 3)⟩,
  ⟨some 13, none, .idx 4 (.t 11) (.t 12)⟩,
  ⟨some 14, none, .lda 4 (.t 13)⟩,
  ⟨some 4, none, .alc [.str [], .int .i64 0, .int .i64 0, .int .i64 0]⟩,
  ⟨none, none, .sto 4 (.t 4) (.t 14)⟩]
def c_spec_IsList_r5 : List GOp := [⟨some 5, none, .mv (.t 3)⟩,
  ⟨some 6, none, .mv (.t 0)⟩,
  ⟨some 7, none, .len (.t 6)⟩,
  ⟨some 8, none, .bin .lss (.t 5) (.t 7)⟩]
def c_spec_IsList_b0 : CC := .seq (.seq (.reg none c_spec_IsList_r5 [0, 3, 8]) (.cnd (.t 8) (.skip) (.exit 0))) (.seq (.blk 1 (.seq (.reg none c_spec_IsList_r4 [0, 3, 4]) (.seq (.reg (some (43, [[], [0], [0, 1], [0, 1, 2], [0, 1, 2, 3], [0, 1, 2, 3, 4], [0, 1, 2, 3, 4, 5], [0, 1, 2, 3, 4, 5, 6], [0, 1, 2, 3, 4, 5, 6, 7], [0, 1, 2, 3, 4, 5, 6, 7, 8], [0, 1, 2, 3, 4, 5, 6, 7, 8, 9], [0, 1, 2, 3, 4, 5, 6, 7, 8, 9, 10], [0, 1, 2, 3, 4, 5, 6, 7, 8, 9], [0, 1, 2, 3, 4, 5, 6, 7, 8, 9, 12], [0, 1, 2, 3, 4, 5, 6, 7, 8, 9, 10, 11, 12, 13], [0, 1, 2, 3, 4, 5, 6, 7, 8, 9, 10, 11, 12, 13, 14], [0, 1, 2, 3, 4, 5, 6, 7, 8, 9, 10, 11, 12, 13, 14, 15], [0, 1, 2, 3, 4, 5, 6, 7, 8, 9, 10, 11, 12, 13, 14, 15, 16], [0, 1, 2, 3, 4, 5, 6, 7, 8, 9, 10, 11, 12, 13, 14, 15, 16, 17], [0, 1, 2, 3, 4, 5, 6, 7, 8, 9, 10, 11, 12, 13, 14, 15, 16, 17, 18], [0, 1, 2, 3, 4, 5, 6, 7, 8, 9, 10, 11, 12, 13, 14, 15, 16, 17, 18, 19], [0, 1, 2, 3, 4, 5, 6, 7, 8, 9, 10, 11, 12, 13, 14, 15, 16, 17, 18, 19, 20], [0, 1, 2, 3, 4, 5, 6, 7, 8, 9, 10, 11, 12, 13, 14, 15, 16, 17, 18, 19, 20, 21], [0, 1, 2, 3, 4, 5, 6, 7, 8, 9, 10, 11, 12, 13, 14, 15, 16, 17, 18, 19, 20, 21, 22], [0, 1, 2, 3, 4, 5, 6, 7, 8, 9, 10, 11, 12, 13, 14, 15, 16, 17, 18, 19, 20, 21, 22, 23], [0, 1, 2, 3, 4, 5, 6, 7, 8, 9, 10, 11, 12, 13, 14, 15, 16, 17, 18, 19, 20, 21, 22, 23, 24], [0, 1, 2, 3, 4, 5, 6, 7, 8, 9, 10, 11, 12, 13, 14, 15, 16, 17, 18, 19, 20, 21, 22, 23, 24, 25], [0, 1, 2, 3, 4, 5, 6, 7, 8, 9, 10, 11, 12, 13, 14, 15, 16, 17, 18, 19, 20, 21, 22, 23, 24, 25, 26], [0, 1, 2, 3, 4, 5, 6, 7, 8, 9, 10, 11, 12, 13, 14, 15, 16, 17, 18, 19, 20, 21, 22, 23, 24, 25, 26, 27], [0, 1, 2, 3, 4, 5, 6, 7, 8, 9, 10, 11, 12, 13, 14, 15, 16, 17, 18, 19, 20, 21, 22, 23, 24, 25, 26, 27, 28], [0, 1, 2, 3, 4, 5, 6, 7, 8, 9, 10, 11, 12, 13, 14, 15, 16, 17, 18, 19, 20, 21, 22, 23, 24, 25, 26, 27, 28, 29], [0, 1, 2, 3, 4, 5, 6, 7, 8, 9, 10, 11, 12, 13, 14, 15, 16, 17, 18, 19, 20, 21, 22, 23, 24, 25, 26, 27, 28, 29, 30], [0, 1, 2, 3, 4, 5, 6, 7, 8, 9, 10, 11, 12, 13, 14, 15, 16, 17, 18, 19, 20, 21, 22, 23, 24, 25, 26, 27, 28, 29, 30], [0, 1, 2, 3, 4, 5, 6, 7, 8, 9, 10, 11, 12, 13, 14, 15, 16, 17, 18, 19, 20, 21, 22, 23, 24, 25, 26, 27, 28, 29, 30, 32], [0, 1, 2, 3, 4, 5, 6, 7, 8, 9, 10, 11, 12, 13, 14, 15, 16, 17, 18, 19, 20, 21, 22, 23, 24, 25, 26, 27, 28, 29, 30, 31, 32, 33], [0, 1, 2, 3, 4, 5, 6, 7, 8, 9, 10, 11, 12, 13, 14, 15, 16, 17, 18, 19, 20, 21, 22, 23, 24, 25, 26, 27, 28, 29, 30, 31, 32, 33, 34], [0, 1, 2, 3, 4, 5, 6, 7, 8, 9, 10, 11, 12, 13, 14, 15, 16, 17, 18, 19, 20, 21, 22, 23, 24, 25, 26, 27, 28, 29, 30, 31, 32, 33, 34, 35], [0, 1, 2, 3, 4, 5, 6, 7, 8, 9, 10, 11, 12, 13, 14, 15, 16, 17, 18, 19, 20, 21, 22, 23, 24, 25, 26, 27, 28, 29, 30], [0, 1, 2, 3, 4, 5, 6, 7, 8, 9, 10, 11, 12, 13, 14, 15, 16, 17, 18, 19, 20, 21, 22, 23, 24, 25, 26, 27, 28, 29, 30, 37], [0, 1, 2, 3, 4, 5, 6, 7, 8, 9, 10, 11, 12, 13, 14, 15, 16, 17, 18, 19, 20, 21, 22, 23, 24, 25, 26, 27, 28, 29, 30, 31, 32, 33, 34, 35, 36, 37, 38], [0, 1, 2, 3, 4, 5, 6, 7, 8, 9, 10, 11, 12, 13, 14, 15, 16, 17, 18, 19, 20, 21, 22, 23, 24, 25, 26, 27, 28, 29, 30, 31, 32, 33, 34, 35, 36, 37, 38, 39], [0, 1, 2, 3, 4, 5, 6, 7, 8, 9, 10, 11, 12, 13, 14, 15, 16, 17, 18, 19, 20, 21, 22, 23, 24, 25, 26, 27, 28, 29, 30, 31, 32, 33, 34, 35, 36, 37, 38, 39, 40], [0, 1, 2, 3, 4, 5, 6, 7, 8, 9, 10, 11, 12, 13, 14, 15, 16, 17, 18, 19, 20, 21, 22, 23, 24, 25, 26, 27, 28, 29, 30, 31, 32, 33, 34, 35, 36, 37, 38, 39, 40, 41]])) c_spec_IsList_r3 [0, 3, 57]) (.cnd (.t 57) (.seq (.reg none c_spec_IsList_r2 [2]) (.ret)) (.skip))))) (.reg none c_spec_IsList_r1 [0, 3]))
def c_spec_IsList_r6 : List GOp := [⟨some 3, none, .asg false (.c (.int .i64 0))⟩]
def c_spec_IsList_r7 : List GOp := [⟨some 2, none, .asg false (.c (.bool false))⟩]
def c_spec_IsList : CC := .seq (.reg none c_spec_IsList_r7 [0]) (.seq (.seq (.reg none c_spec_IsList_r6 [0, 3]) (.blk 0 (.loop c_spec_IsList_b0 [0, 3]))) (.seq (.reg none c_spec_IsList_r0 [2]) (.ret)))
abbrev L_spec_IsList_0 (P : Program) (E : Env) (r : List RV) : Prop := Run P [.tmp 2] (.code c_spec_IsList_b0 :: .lp c_spec_IsList_b0 [0, 3] :: [.blk 0, .code (.seq (.reg none c_spec_IsList_r0 [2]) (.ret))]) E r
theorem k_spec_IsList : chkF Tryz.prog Tryz.f134 c_spec_IsList [.tmp 2] = true := by kernel_rfl
theorem S_spec_IsList {args : List AV} {r : List RV} (hs : sizeXs Tryz.prog Tryz.f134.results.toList r = true) (hn : args.length ≤ 61) (h : Run Tryz.prog [.tmp 2] [.code c_spec_IsList] (argEnv args 0) r) : CallsOK Tryz.prog F_spec_IsList args r := callsOK Tryz.func134 k_spec_IsList hs hn h

-- loop.example/g03003/spec.IsDictionary
def c_spec_IsDictionary_r0 : List GOp := [⟨some 43, none, .mv (.t 0)⟩,
  ⟨some 44, none, .len (.t 43)⟩,
  ⟨some 45, none, .bin .leq (.t 44) (.c (.int .i64 40))⟩,
  ⟨some 2, none, .asg true (.t 45)⟩]
def c_spec_IsDictionary_r1 : List GOp := [⟨some 8, none, .mv (.t 3)⟩,
  ⟨some 9, none, .bin .add (.t 8) (.c (.int .i64 1))⟩,
  ⟨some 3, none, .asg true (.t 9)⟩]
def c_spec_IsDictionary_r2 : List GOp := [⟨some 2, none, .asg false (.c (.bool false))⟩]
def c_spec_IsDictionary_r3 : List GOp := [⟨some 10, none, .mv (.t 0)⟩,
  ⟨some 11, none, .mv (.t 3)⟩,
  ⟨some 12, none, .idx 2 (.t 10) (.t 11)⟩,
  ⟨some 13, none, .fld (.t 12) 0⟩,
  ⟨some 14, none, .ld (.t 13)⟩,
  ⟨some 15, none, .call F_spec_IsWord [.t 14]⟩,
  ⟨some 16, none, .not (.t 15)⟩,
  ⟨some 17, none, .mv (.t 16)⟩,
  ⟨some 18, some (17, false), .mv (.t 0)⟩,
  ⟨some 19, some (17, false), .mv (.t 3)⟩,
  ⟨some 20, some (17, false), .idx 2 (.t 18) (.t 19)⟩,
  ⟨some 21, some (17, false), .fld (.t 20) 1⟩,
  ⟨some 22, some (17, false), .ld (.t 21)⟩,
  ⟨some 23, some (17, false), .call F_spec_l1In [.t 22, .c (.int .i64 1), .c (.int .i64 99)]⟩,
  ⟨some 24, some (17, false), .not (.t 23)⟩,
  ⟨some 25, none, .pick (.t 17) (.c (.bool true)) (.t 24)⟩,
  ⟨some 26, none, .mv (.t 25)⟩,
  ⟨some 27, some (26, false), .mv (.t 3)⟩,
  ⟨some 28, some (26, false), .bin .gtr (.t 27) (.c (.int .i64 0))⟩,
  ⟨some 29, some (26, false), .mv (.t 28)⟩,
  ⟨some 30, some (29, true), .mv (.t 0)⟩,
  ⟨some 31, some (29, true), .mv (.t 3)⟩,
  ⟨some 32, some (29, true), .bin .sub (.t 31) (.c (.int .i64 1))⟩,
  ⟨some 33, some (29, true), .idx 2 (.t 30) (.t 32)⟩,
  ⟨some 34, some (29, true), .lda 2 (.t 33)⟩,
  ⟨some 35, some (29, true), .mv (.t 0)⟩,
  ⟨some 36, some (29, true), .mv (.t 3)⟩,
  ⟨some 37, some (29, true), .idx 2 (.t 35) (.t 36)⟩,
  ⟨some 38, some (29, true), .lda 2 (.t 37)⟩,
  ⟨some 39, some (29, true), .call F_spec_l17Before [.t 34, .t 38]⟩,
  ⟨some 40, some (29, true), .not (.t 39)⟩,
  ⟨some 41, some (26, false), .pick (.t 29) (.t 40) (.c (.bool false))⟩,
  ⟨some 42, none, .pick (.t 26) (.c (.bool true)) (.t 41)⟩]
def c_spec_IsDictionary_r4 : List GOp := [⟨some 4, none, .mv (.t 3)⟩,
  ⟨some 5, none, .mv (.t 0)⟩,
  ⟨some 6, none, .len (.t 5)⟩,
  ⟨some 7, none, .bin .lss (.t 4) (.t 6)⟩]
def c_spec_IsDictionary_b0 : CC := .seq (.seq (.reg none c_spec_IsDictionary_r4 [0, 3, 7]) (.cnd (.t 7) (.skip) (.exit 0))) (.seq (.blk 1 (.seq (.reg (some (33, [[], [], [0, 1], [0, 1, 2], [0, 1, 2, 3], [0, 1, 2, 3, 4], [0, 1, 2, 3, 4, 5], [0, 1, 2, 3, 4, 5, 6], [0, 1, 2, 3, 4, 5, 6, 7], [0, 1, 2, 3, 4, 5, 6, 7], [0, 1, 2, 3, 4, 5, 6, 7, 8, 9], [0, 1, 2, 3, 4, 5, 6, 7, 8, 9, 10], [0, 1, 2, 3, 4, 5, 6, 7, 8, 9, 10, 11], [0, 1, 2, 3, 4, 5, 6, 7, 8, 9, 10, 11, 12], [0, 1, 2, 3, 4, 5, 6, 7, 8, 9, 10, 11, 12, 13], [0, 1, 2, 3, 4, 5, 6, 7, 8, 9, 10, 11, 12, 13, 14], [0, 1, 2, 3, 4, 5, 6, 7, 8, 9, 10, 11, 12, 13, 14, 15], [0, 1, 2, 3, 4, 5, 6, 7, 8, 9, 10, 11, 12, 13, 14, 15, 16], [0, 1, 2, 3, 4, 5, 6, 7, 8, 9, 10, 11, 12, 13, 14, 15, 16, 17], [0, 1, 2, 3, 4, 5, 6, 7, 8, 9, 10, 11, 12, 13, 14, 15, 16, 17, 18], [0, 1, 2, 3, 4, 5, 6, 7, 8, 9, 10, 11, 12, 13, 14, 15, 16, 17, 18, 19], [0, 1, 2, 3, 4, 5, 6, 7, 8, 9, 10, 11, 12, 13, 14, 15, 16, 17, 18, 19], [0, 1, 2, 3, 4, 5, 6, 7, 8, 9, 10, 11, 12, 13, 14, 15, 16, 17, 18, 19, 21], [0, 1, 2, 3, 4, 5, 6, 7, 8, 9, 10, 11, 12, 13, 14, 15, 16, 17, 18, 19, 20, 21, 22], [0, 1, 2, 3, 4, 5, 6, 7, 8, 9, 10, 11, 12, 13, 14, 15, 16, 17, 18, 19, 20, 21, 22, 23], [0, 1, 2, 3, 4, 5, 6, 7, 8, 9, 10, 11, 12, 13, 14, 15, 16, 17, 18, 19], [0, 1, 2, 3, 4, 5, 6, 7, 8, 9, 10, 11, 12, 13, 14, 15, 16, 17, 18, 19], [0, 1, 2, 3, 4, 5, 6, 7, 8, 9, 10, 11, 12, 13, 14, 15, 16, 17, 18, 19, 25, 26], [0, 1, 2, 3, 4, 5, 6, 7, 8, 9, 10, 11, 12, 13, 14, 15, 16, 17, 18, 19, 25, 26, 27], [0, 1, 2, 3, 4, 5, 6, 7, 8, 9, 10, 11, 12, 13, 14, 15, 16, 17, 18, 19, 20, 21, 22, 23, 24, 25, 26, 27, 28], [0, 1, 2, 3, 4, 5, 6, 7, 8, 9, 10, 11, 12, 13, 14, 15, 16, 17, 18, 19, 20, 21, 22, 23, 24, 25, 26, 27, 28, 29], [0, 1, 2, 3, 4, 5, 6, 7, 8, 9, 10, 11, 12, 13, 14, 15, 16, 17, 18, 19, 20, 21, 22, 23, 24, 25, 26, 27, 28, 29, 30], [0, 1, 2, 3, 4, 5, 6, 7, 8, 9, 10, 11, 12, 13, 14, 15, 16, 17, 18, 19, 20, 21, 22, 23, 24, 25, 26, 27, 28, 29, 30, 31]])) c_spec_IsDictionary_r3 [0, 3, 42]) (.cnd (.t 42) (.seq (.reg none c_spec_IsDictionary_r2 [2]) (.ret)) (.skip)))) (.reg none c_spec_IsDictionary_r1 [0, 3]))
def c_spec_IsDictionary_r5 : List GOp := [⟨some 3, none, .asg false (.c (.int .i64 0))⟩]
def c_spec_IsDictionary_r6 : List GOp := [⟨some 2, none, .asg false (.c (.bool false))⟩]
def c_spec_IsDictionary : CC := .seq (.reg none c_spec_IsDictionary_r6 [0]) (.seq (.seq (.reg none c_spec_IsDictionary_r5 [0, 3]) (.blk 0 (.loop c_spec_IsDictionary_b0 [0, 3]))) (.seq (.reg none c_spec_IsDictionary_r0 [2]) (.ret)))
abbrev L_spec_IsDictionary_0 (P : Program) (E : Env) (r : List RV) : Prop := Run P [.tmp 2] (.code c_spec_IsDictionary_b0 :: .lp c_spec_IsDictionary_b0 [0, 3] :: [.blk 0, .code (.seq (.reg none c_spec_IsDictionary_r0 [2]) (.ret))]) E r
theorem k_spec_IsDictionary : chkF Tryz.prog Tryz.f135 c_spec_IsDictionary [.tmp 2] = true := by kernel_rfl
theorem S_spec_IsDictionary {args : List AV} {r : List RV} (hs : sizeXs Tryz.prog Tryz.f135.results.toList r = true) (hn : args.length ≤ 46) (h : Run Tryz.prog [.tmp 2] [.code c_spec_IsDictionary] (argEnv args 0) r) : CallsOK Tryz.prog F_spec_IsDictionary args r := callsOK Tryz.func135 k_spec_IsDictionary hs hn h

-- loop.example/g03003/spec.l33Zero
def c_spec_l33Zero_r0 : List GOp := [⟨some 3, none, .fld (.t 1) 0⟩,
  ⟨some 4, none, .lda 3 (.t 3)⟩,
  ⟨some 5, none, .bld [.int .i64 0, .int .i64 0, .str []] []⟩,
  ⟨some 6, none, .eqa [.int, .int, .str] false (.t 4) (.t 5)⟩,
  ⟨some 7, none, .mv (.t 6)⟩,
  ⟨some 8, some (7, true), .fld (.t 1) 3⟩,
  ⟨some 9, some (7, true), .ld (.t 8)⟩,
  ⟨some 10, some (7, true), .bin .eql (.t 9) (.c (.str []))⟩,
  ⟨some 11, none, .pick (.t 7) (.t 10) (.c (.bool false))⟩,
  ⟨some 12, none, .mv (.t 11)⟩,
  ⟨some 13, some (12, true), .fld (.t 1) 4⟩,
  ⟨some 14, some (12, true), .ld (.t 13)⟩,
  ⟨some 15, some (12, true), .len (.t 14)⟩,
  ⟨some 16, some (12, true), .bin .eql (.t 15) (.c (.int .i64 0))⟩,
  ⟨some 17, none, .pick (.t 12) (.t 16) (.c (.bool false))⟩,
  ⟨some 18, none, .mv (.t 17)⟩,
  ⟨some 19, some (18, true), .fld (.t 1) 5⟩,
  ⟨some 20, some (18, true), .ld (.t 19)⟩,
  ⟨some 21, some (18, true), .bin .eql (.t 20) (.c (.int .i64 0))⟩,
  ⟨some 22, none, .pick (.t 18) (.t 21) (.c (.bool false))⟩,
  ⟨some 2, none, .asg true (.t 22)⟩]
def c_spec_l33Zero_r1 : List GOp := [⟨some 1, none, .box (.t 0)⟩,
  ⟨some 2, none, .asg false (.c (.bool false))⟩]
def c_spec_l33Zero : CC := .seq (.reg none c_spec_l33Zero_r1 [1]) (.seq (.reg none c_spec_l33Zero_r0 [2]) (.ret))
theorem k_spec_l33Zero : chkF Tryz.prog Tryz.f136 c_spec_l33Zero [.tmp 2] = true := by kernel_rfl
theorem S_spec_l33Zero {args : List AV} {r : List RV} (hs : sizeXs Tryz.prog Tryz.f136.results.toList r = true) (hn : args.length ≤ 23) (h : Run Tryz.prog [.tmp 2] [.code c_spec_l33Zero] (argEnv args 0) r) : CallsOK Tryz.prog F_spec_l33Zero args r := callsOK Tryz.func136 k_spec_l33Zero hs hn h

-- loop.example/g03003/spec.l33Rest
def c_spec_l33Rest_r0 : List GOp := [⟨some 94, none, .fld (.t 1) 9⟩,
  ⟨some 95, none, .ld (.t 94)⟩,
  ⟨some 96, none, .call F_spec_AreUses [.t 95]⟩,
  ⟨some 97, none, .mv (.t 96)⟩,
  ⟨some 98, some (97, true), .fld (.t 1) 10⟩,
  ⟨some 99, some (97, true), .ld (.t 98)⟩,
  ⟨some 100, some (97, true), .call F_spec_AreCorrections [.t 99]⟩,
  ⟨some 101, none, .pick (.t 97) (.t 100) (.c (.bool false))⟩,
  ⟨some 102, none, .mv (.t 101)⟩,
  ⟨some 103, some (102, true), .fld (.t 1) 11⟩,
  ⟨some 104, some (102, true), .ld (.t 103)⟩,
  ⟨some 105, some (102, true), .len (.t 104)⟩,
  ⟨some 106, some (102, true), .bin .leq (.t 105) (.c (.int .i64 12))⟩,
  ⟨some 107, none, .pick (.t 102) (.t 106) (.c (.bool false))⟩,
  ⟨some 2, none, .asg true (.t 107)⟩]
def c_spec_l33Rest_r1 : List GOp := [⟨some 58, none, .mv (.t 6)⟩,
  ⟨some 59, none, .bin .add (.t 58) (.c (.int .i64 1))⟩,
  ⟨some 6, none, .asg true (.t 59)⟩]
def c_spec_l33Rest_r2 : List GOp := [⟨some 2, none, .asg false (.c (.bool false))⟩]
def c_spec_l33Rest_r3 : List GOp := [⟨some 71, none, .mv (.t 8)⟩,
  ⟨some 72, none, .not (.t 71)⟩,
  ⟨some 73, none, .mv (.t 72)⟩,
  ⟨some 74, some (73, false), .fld (.t 1) 11⟩,
  ⟨some 75, some (73, false), .ld (.t 74)⟩,
  ⟨some 76, some (73, false), .mv (.t 6)⟩,
  ⟨some 77, some (73, false), .idx 4 (.t 75) (.t 76)⟩,
  ⟨some 78, some (73, false), .lda 4 (.t 77)⟩,
  ⟨some 79, some (73, false), .lda 10 (.t 7)⟩,
  ⟨some 80, some (73, false), .call F_spec_IsEntry [.t 78, .t 79]⟩,
  ⟨some 81, some (73, false), .not (.t 80)⟩,
  ⟨some 82, none, .pick (.t 73) (.c (.bool true)) (.t 81)⟩,
  ⟨some 83, none, .mv (.t 82)⟩,
  ⟨some 84, some (83, false), .fld (.t 1) 11⟩,
  ⟨some 85, some (83, false), .ld (.t 84)⟩,
  ⟨some 86, some (83, false), .mv (.t 6)⟩,
  ⟨some 87, some (83, false), .idx 4 (.t 85) (.t 86)⟩,
  ⟨some 88, some (83, false), .fld (.t 87) 2⟩,
  ⟨some 89, some (83, false), .ld (.t 88)⟩,
  ⟨some 90, some (83, false), .fld (.t 1) 12⟩,
  ⟨some 91, some (83, false), .ld (.t 90)⟩,
  ⟨some 92, some (83, false), .bin .gtr (.t 89) (.t 91)⟩,
  ⟨some 93, none, .pick (.t 83) (.c (.bool true)) (.t 92)⟩]
def c_spec_l33Rest_r4 : List GOp := [⟨some 61, none, .lda 13 (.t 1)⟩,
  ⟨some 62, none, .fld (.t 1) 11⟩,
  ⟨some 63, none, .ld (.t 62)⟩,
  ⟨some 64, none, .mv (.t 6)⟩,
  ⟨some 65, none, .idx 4 (.t 63) (.t 64)⟩,
  ⟨some 66, none, .fld (.t 65) 1⟩,
  ⟨some 67, none, .ld (.t 66)⟩,
  ⟨some 68, none, .call F_spec_IssueOf [.t 61, .t 67]⟩,
  ⟨some 60, none, .mv (.t 68)⟩,
  ⟨some 69, none, .ext (.t 60) 0⟩,
  ⟨some 70, none, .ext (.t 60) 1⟩,
  ⟨some 7, none, .alc [.int .i64 0, .int .i64 0, .int .i64 0, .str [], .sl 2 [], .sl 1 [], .int .i64 0, .str [], .int .i64 0, .int .i64 0]⟩,
  ⟨none, none, .sto 10 (.t 7) (.t 69)⟩,
  ⟨some 8, none, .mv (.t 70)⟩]
def c_spec_l33Rest_r5 : List GOp := [⟨some 53, none, .mv (.t 6)⟩,
  ⟨some 54, none, .fld (.t 1) 11⟩,
  ⟨some 55, none, .ld (.t 54)⟩,
  ⟨some 56, none, .len (.t 55)⟩,
  ⟨some 57, none, .bin .lss (.t 53) (.t 56)⟩]
def c_spec_l33Rest_b0 : CC := .seq (.seq (.reg none c_spec_l33Rest_r5 [1, 6, 57]) (.cnd (.t 57) (.skip) (.exit 2))) (.seq (.blk 3 (.seq (.any [[], [], [1], [], [1, 2, 3], [1, 2, 3, 4], [1, 2, 3, 4, 5], [0, 1, 2, 3, 4, 5, 6], [0, 1, 2, 3, 4, 5, 6, 7], [0, 1, 2, 3, 4, 5, 6, 7, 8], [0, 1, 2, 3, 4, 5, 6, 7, 8], [], [0, 1, 2, 3, 4, 5, 6, 7, 8, 9, 11], [0, 1, 2, 3, 4, 5, 6, 7, 8, 9, 10, 11, 12]] c_spec_l33Rest_r4 [1, 6, 7, 8]) (.seq (.reg (some (23, [[], [0], [0, 1], [0, 1, 2], [0, 1, 2, 3], [0, 1, 2], [0, 1, 2, 3, 4, 5], [0, 1, 2, 3, 4, 5, 6], [0, 1, 2], [0, 1, 2, 3, 4, 5, 6, 7, 8], [0, 1, 2, 3, 4, 5, 6, 7, 8, 9], [0, 1, 2, 3, 4, 5, 6, 7, 8, 9, 10], [0, 1, 2, 3, 4, 5, 6, 7, 8, 9, 10, 11], [0, 1, 2, 3, 4, 5, 6, 7, 8, 9, 10, 11, 12], [0, 1, 2, 3, 4, 5, 6, 7, 8, 9, 10, 11, 12, 13], [0, 1, 2, 3, 4, 5, 6, 7, 8, 9, 10, 11, 12], [0, 1, 2, 3, 4, 5, 6, 7, 8, 9, 10, 11, 12, 13, 14, 15], [0, 1, 2, 3, 4, 5, 6, 7, 8, 9, 10, 11, 12, 13, 14, 15, 16], [0, 1, 2, 3, 4, 5, 6, 7, 8, 9, 10, 11, 12, 13, 14, 15, 16, 17], [0, 1, 2, 3, 4, 5, 6, 7, 8, 9, 10, 11, 12], [0, 1, 2, 3, 4, 5, 6, 7, 8, 9, 10, 11, 12, 19], [0, 1, 2, 3, 4, 5, 6, 7, 8, 9, 10, 11, 12, 13, 14, 15, 16, 17, 18, 19, 20], [0, 1, 2, 3, 4, 5, 6, 7, 8, 9, 10, 11, 12, 13, 14, 15, 16, 17, 18, 19, 20, 21]])) c_spec_l33Rest_r3 [1, 6, 93]) (.cnd (.t 93) (.seq (.reg none c_spec_l33Rest_r2 [2]) (.ret)) (.skip))))) (.reg none c_spec_l33Rest_r1 [1, 6]))
def c_spec_l33Rest_r6 : List GOp := [⟨some 6, none, .asg false (.c (.int .i64 0))⟩]
def c_spec_l33Rest_r7 : List GOp := [⟨some 14, none, .mv (.t 3)⟩,
  ⟨some 15, none, .bin .add (.t 14) (.c (.int .i64 1))⟩,
  ⟨some 3, none, .asg true (.t 15)⟩]
def c_spec_l33Rest_r8 : List GOp := [⟨some 2, none, .asg false (.c (.bool false))⟩]
def c_spec_l33Rest_r9 : List GOp := [⟨some 27, none, .mv (.t 5)⟩,
  ⟨some 28, none, .not (.t 27)⟩,
  ⟨some 29, none, .mv (.t 28)⟩,
  ⟨some 30, some (29, false), .fld (.t 1) 10⟩,
  ⟨some 31, some (29, false), .ld (.t 30)⟩,
  ⟨some 32, some (29, false), .mv (.t 3)⟩,
  ⟨some 33, some (29, false), .idx 5 (.t 31) (.t 32)⟩,
  ⟨some 34, some (29, false), .fld (.t 33) 1⟩,
  ⟨some 35, some (29, false), .ld (.t 34)⟩,
  ⟨some 36, some (29, false), .fld (.t 4) 1⟩,
  ⟨some 37, some (29, false), .fld (.t 36) 3⟩,
  ⟨some 38, some (29, false), .ld (.t 37)⟩,
  ⟨some 39, some (29, false), .len (.t 38)⟩,
  ⟨some 40, some (29, false), .bin .geq (.t 35) (.t 39)⟩,
  ⟨some 41, none, .pick (.t 29) (.c (.bool true)) (.t 40)⟩,
  ⟨some 42, none, .mv (.t 41)⟩,
  ⟨some 43, some (42, false), .fld (.t 1) 10⟩,
  ⟨some 44, some (42, false), .ld (.t 43)⟩,
  ⟨some 45, some (42, false), .mv (.t 3)⟩,
  ⟨some 46, some (42, false), .idx 5 (.t 44) (.t 45)⟩,
  ⟨some 47, some (42, false), .fld (.t 46) 4⟩,
  ⟨some 48, some (42, false), .ld (.t 47)⟩,
  ⟨some 49, some (42, false), .fld (.t 1) 12⟩,
  ⟨some 50, some (42, false), .ld (.t 49)⟩,
  ⟨some 51, some (42, false), .bin .gtr (.t 48) (.t 50)⟩,
  ⟨some 52, none, .pick (.t 42) (.c (.bool true)) (.t 51)⟩]
def c_spec_l33Rest_r10 : List GOp := [⟨some 17, none, .lda 13 (.t 1)⟩,
  ⟨some 18, none, .fld (.t 1) 10⟩,
  ⟨some 19, none, .ld (.t 18)⟩,
  ⟨some 20, none, .mv (.t 3)⟩,
  ⟨some 21, none, .idx 5 (.t 19) (.t 20)⟩,
  ⟨some 22, none, .fld (.t 21) 0⟩,
  ⟨some 23, none, .ld (.t 22)⟩,
  ⟨some 24, none, .call F_spec_IssueOf [.t 17, .t 23]⟩,
  ⟨some 16, none, .mv (.t 24)⟩,
  ⟨some 25, none, .ext (.t 16) 0⟩,
  ⟨some 26, none, .ext (.t 16) 1⟩,
  ⟨some 4, none, .alc [.int .i64 0, .int .i64 0, .int .i64 0, .str [], .sl 2 [], .sl 1 [], .int .i64 0, .str [], .int .i64 0, .int .i64 0]⟩,
  ⟨none, none, .sto 10 (.t 4) (.t 25)⟩,
  ⟨some 5, none, .mv (.t 26)⟩]
def c_spec_l33Rest_r11 : List GOp := [⟨some 9, none, .mv (.t 3)⟩,
  ⟨some 10, none, .fld (.t 1) 10⟩,
  ⟨some 11, none, .ld (.t 10)⟩,
  ⟨some 12, none, .len (.t 11)⟩,
  ⟨some 13, none, .bin .lss (.t 9) (.t 12)⟩]
def c_spec_l33Rest_b1 : CC := .seq (.seq (.reg none c_spec_l33Rest_r11 [1, 3, 13]) (.cnd (.t 13) (.skip) (.exit 0))) (.seq (.blk 1 (.seq (.any [[], [], [1], [], [1, 2, 3], [1, 2, 3, 4], [1, 2, 3, 4, 5], [0, 1, 2, 3, 4, 5, 6], [0, 1, 2, 3, 4, 5, 6, 7], [0, 1, 2, 3, 4, 5, 6, 7, 8], [0, 1, 2, 3, 4, 5, 6, 7, 8], [], [0, 1, 2, 3, 4, 5, 6, 7, 8, 9, 11], [0, 1, 2, 3, 4, 5, 6, 7, 8, 9, 10, 11, 12]] c_spec_l33Rest_r10 [1, 3, 4, 5]) (.seq (.reg (some (26, [[], [0], [0, 1], [0, 1, 2], [0, 1, 2, 3], [0, 1, 2], [0, 1, 2, 3, 4, 5], [0, 1, 2, 3, 4, 5, 6], [0, 1, 2, 3, 4, 5, 6, 7], [0, 1, 2], [0, 1, 2, 9], [0, 1, 2, 9, 10], [0, 1, 2, 9, 10, 11], [0, 1, 2, 3, 4, 5, 6, 7, 8, 9, 10, 11, 12], [0, 1, 2, 3, 4, 5, 6, 7, 8, 9, 10, 11, 12, 13], [0, 1, 2, 3, 4, 5, 6, 7, 8, 9, 10, 11, 12, 13, 14], [0, 1, 2, 3, 4, 5, 6, 7, 8, 9, 10, 11, 12, 13, 14, 15], [0, 1, 2, 3, 4, 5, 6, 7, 8, 9, 10, 11, 12, 13, 14, 15, 16], [0, 1, 2, 3, 4, 5, 6, 7, 8, 9, 10, 11, 12, 13, 14, 15], [0, 1, 2, 3, 4, 5, 6, 7, 8, 9, 10, 11, 12, 13, 14, 15, 16, 17, 18], [0, 1, 2, 3, 4, 5, 6, 7, 8, 9, 10, 11, 12, 13, 14, 15, 16, 17, 18, 19], [0, 1, 2, 3, 4, 5, 6, 7, 8, 9, 10, 11, 12, 13, 14, 15, 16, 17, 18, 19, 20], [0, 1, 2, 3, 4, 5, 6, 7, 8, 9, 10, 11, 12, 13, 14, 15], [0, 1, 2, 3, 4, 5, 6, 7, 8, 9, 10, 11, 12, 13, 14, 15, 22], [0, 1, 2, 3, 4, 5, 6, 7, 8, 9, 10, 11, 12, 13, 14, 15, 16, 17, 18, 19, 20, 21, 22, 23], [0, 1, 2, 3, 4, 5, 6, 7, 8, 9, 10, 11, 12, 13, 14, 15, 16, 17, 18, 19, 20, 21, 22, 23, 24]])) c_spec_l33Rest_r9 [1, 3, 52]) (.cnd (.t 52) (.seq (.reg none c_spec_l33Rest_r8 [2]) (.ret)) (.skip))))) (.reg none c_spec_l33Rest_r7 [1, 3]))
def c_spec_l33Rest_r12 : List GOp := [⟨some 3, none, .asg false (.c (.int .i64 0))⟩]
def c_spec_l33Rest_r13 : List GOp := [⟨some 1, none, .box (.t 0)⟩,
  ⟨some 2, none, .asg false (.c (.bool false))⟩]
def c_spec_l33Rest : CC := .seq (.reg none c_spec_l33Rest_r13 [1]) (.seq (.seq (.reg none c_spec_l33Rest_r12 [1, 3]) (.blk 0 (.loop c_spec_l33Rest_b1 [1, 3]))) (.seq (.seq (.reg none c_spec_l33Rest_r6 [1, 6]) (.blk 2 (.loop c_spec_l33Rest_b0 [1, 6]))) (.seq (.reg none c_spec_l33Rest_r0 [2]) (.ret))))
abbrev L_spec_l33Rest_0 (P : Program) (E : Env) (r : List RV) : Prop := Run P [.tmp 2] (.code c_spec_l33Rest_b0 :: .lp c_spec_l33Rest_b0 [1, 6] :: [.blk 2, .code (.seq (.reg none c_spec_l33Rest_r0 [2]) (.ret))]) E r
abbrev L_spec_l33Rest_1 (P : Program) (E : Env) (r : List RV) : Prop := Run P [.tmp 2] (.code c_spec_l33Rest_b1 :: .lp c_spec_l33Rest_b1 [1, 3] :: [.blk 0, .code (.seq (.seq (.reg none c_spec_l33Rest_r6 [1, 6]) (.blk 2 (.loop c_spec_l33Rest_b0 [1, 6]))) (.seq (.reg none c_spec_l33Rest_r0 [2]) (.ret)))]) E r
theorem k_spec_l33Rest : chkF Tryz.prog Tryz.f137 c_spec_l33Rest [.tmp 2] = true := by kernel_rfl
theorem S_spec_l33Rest {args : List AV} {r : List RV} (hs : sizeXs Tryz.prog Tryz.f137.results.toList r = true) (hn : args.length ≤ 108) (h : Run Tryz.prog [.tmp 2] [.code c_spec_l33Rest] (argEnv args 0) r) : CallsOK Tryz.prog F_spec_l33Rest args r := callsOK Tryz.func137 k_spec_l33Rest hs hn h

-- loop.example/g03003/spec.l1In
def c_spec_l1In_r0 : List GOp := [⟨some 7, none, .mv (.t 0)⟩,
  ⟨some 8, none, .mv (.t 1)⟩,
  ⟨some 9, none, .bin .geq (.t 7) (.t 8)⟩,
  ⟨some 10, none, .mv (.t 9)⟩,
  ⟨some 11, some (10, true), .mv (.t 0)⟩,
  ⟨some 12, some (10, true), .mv (.t 2)⟩,
  ⟨some 13, some (10, true), .bin .leq (.t 11) (.t 12)⟩,
  ⟨some 14, none, .pick (.t 10) (.t 13) (.c (.bool false))⟩,
  ⟨some 6, none, .asg true (.t 14)⟩]
def c_spec_l1In_r1 : List GOp := [⟨some 6, none, .asg false (.c (.bool false))⟩]
def c_spec_l1In : CC := .seq (.reg none c_spec_l1In_r1 [0, 1, 2]) (.seq (.reg none c_spec_l1In_r0 [6]) (.ret))
theorem k_spec_l1In : chkF Tryz.prog Tryz.f138 c_spec_l1In [.tmp 6] = true := by kernel_rfl
theorem S_spec_l1In {args : List AV} {r : List RV} (hs : sizeXs Tryz.prog Tryz.f138.results.toList r = true) (hn : args.length ≤ 15) (h : Run Tryz.prog [.tmp 6] [.code c_spec_l1In] (argEnv args 0) r) : CallsOK Tryz.prog F_spec_l1In args r := callsOK Tryz.func138 k_spec_l1In hs hn h

-- slices.Clone[[]loop.example/g03003/impl.Listed,loop.example/g03003/impl.Listed]
def c_slices_Clone_impl_Listed_r0 : List GOp := [⟨some 5, none, .bslo T_impl_Listed 4 40 []⟩,
  ⟨some 6, none, .mv (.t 0)⟩,
  ⟨some 7, none, .app T_impl_Listed 4 40 (.t 5) (.t 6)⟩,
  ⟨some 2, none, .asg true (.t 7)⟩]
def c_slices_Clone_impl_Listed_r1 : List GOp := [⟨some 2, none, .nilo T_impl_Listed 4 40⟩]
def c_slices_Clone_impl_Listed_r2 : List GOp := [⟨some 3, none, .mv (.t 0)⟩,
  ⟨some 4, none, .isn false (.t 3)⟩]
def c_slices_Clone_impl_Listed_r3 : List GOp := [⟨some 2, none, .nilo T_impl_Listed 4 40⟩]
def c_slices_Clone_impl_Listed : CC := .seq (.reg none c_slices_Clone_impl_Listed_r3 [0]) (.seq (.seq (.reg none c_slices_Clone_impl_Listed_r2 [0, 4]) (.cnd (.t 4) (.seq (.reg none c_slices_Clone_impl_Listed_r1 [2]) (.ret)) (.skip))) (.seq (.reg none c_slices_Clone_impl_Listed_r0 [2]) (.ret)))
theorem k_slices_Clone_impl_Listed : chkF Tryz.prog Tryz.f139 c_slices_Clone_impl_Listed [.tmp 2] = true := by kernel_rfl
theorem S_slices_Clone_impl_Listed {args : List AV} {r : List RV} (hs : sizeXs Tryz.prog Tryz.f139.results.toList r = true) (hn : args.length ≤ 8) (h : Run Tryz.prog [.tmp 2] [.code c_slices_Clone_impl_Listed] (argEnv args 0) r) : CallsOK Tryz.prog F_slices_Clone_impl_Listed args r := callsOK Tryz.func139 k_slices_Clone_impl_Listed hs hn h

-- slices.Clone[[]loop.example/g03003/impl.Meaning,loop.example/g03003/impl.Meaning]
def c_slices_Clone_impl_Meaning_r0 : List GOp := [⟨some 5, none, .bslo T_impl_Meaning 2 24 []⟩,
  ⟨some 6, none, .mv (.t 0)⟩,
  ⟨some 7, none, .app T_impl_Meaning 2 24 (.t 5) (.t 6)⟩,
  ⟨some 2, none, .asg true (.t 7)⟩]
def c_slices_Clone_impl_Meaning_r1 : List GOp := [⟨some 2, none, .nilo T_impl_Meaning 2 24⟩]
def c_slices_Clone_impl_Meaning_r2 : List GOp := [⟨some 3, none, .mv (.t 0)⟩,
  ⟨some 4, none, .isn false (.t 3)⟩]
def c_slices_Clone_impl_Meaning_r3 : List GOp := [⟨some 2, none, .nilo T_impl_Meaning 2 24⟩]
def c_slices_Clone_impl_Meaning : CC := .seq (.reg none c_slices_Clone_impl_Meaning_r3 [0]) (.seq (.seq (.reg none c_slices_Clone_impl_Meaning_r2 [0, 4]) (.cnd (.t 4) (.seq (.reg none c_slices_Clone_impl_Meaning_r1 [2]) (.ret)) (.skip))) (.seq (.reg none c_slices_Clone_impl_Meaning_r0 [2]) (.ret)))
theorem k_slices_Clone_impl_Meaning : chkF Tryz.prog Tryz.f140 c_slices_Clone_impl_Meaning [.tmp 2] = true := by kernel_rfl
theorem S_slices_Clone_impl_Meaning {args : List AV} {r : List RV} (hs : sizeXs Tryz.prog Tryz.f140.results.toList r = true) (hn : args.length ≤ 8) (h : Run Tryz.prog [.tmp 2] [.code c_slices_Clone_impl_Meaning] (argEnv args 0) r) : CallsOK Tryz.prog F_slices_Clone_impl_Meaning args r := callsOK Tryz.func140 k_slices_Clone_impl_Meaning hs hn h

-- loop.example/g03003/impl.copyDraft
def c_impl_copyDraft_r0 : List GOp := [⟨some 7, none, .lda 6 (.t 1)⟩,
  ⟨none, none, .sto 6 (.t 2) (.t 7)⟩]
def c_impl_copyDraft_r1 : List GOp := [⟨some 3, none, .fld (.t 1) 4⟩,
  ⟨some 4, none, .ld (.t 3)⟩,
  ⟨some 5, none, .call F_impl_copyClues [.t 4]⟩,
  ⟨some 6, none, .fld (.t 1) 4⟩,
  ⟨none, none, .sto 1 (.t 6) (.t 5)⟩]
def c_impl_copyDraft_r2 : List GOp := [⟨some 1, none, .box (.t 0)⟩,
  ⟨some 2, none, .alc [.int .i64 0, .int .i64 0, .str [], .str [], .sl 2 [], .int .i64 0]⟩]
def c_impl_copyDraft : CC := .seq (.reg none c_impl_copyDraft_r2 [1, 2, 1000, 1001, 1002, 1003, 1004, 1005, 1006, 1007, 1008, 1009]) (.seq (.reg none c_impl_copyDraft_r1 [1, 2, 1000, 1001, 1002, 1003, 1004, 1005, 1006, 1007, 1008, 1009]) (.seq (.reg none c_impl_copyDraft_r0 [2, 1000, 1001, 1002, 1003, 1004, 1005, 1006, 1007, 1008, 1009]) (.ret)))
theorem k_impl_copyDraft : chkF Tryz.prog Tryz.f141 c_impl_copyDraft [.cella 2] = true := by kernel_rfl
theorem S_impl_copyDraft {args : List AV} {r : List RV} (hs : sizeXs Tryz.prog Tryz.f141.results.toList r = true) (hn : args.length ≤ 8) (h : Run Tryz.prog [.cella 2] [.code c_impl_copyDraft] (argEnv args 0) r) : CallsOK Tryz.prog F_impl_copyDraft args r := callsOK Tryz.func141 k_impl_copyDraft hs hn h
theorem SH_impl_copyDraft {args : (Nat → Value) → List AV} {res : (Nat → Value) → List RV} {hin hout : List HT} (ni no : List Nat) (hs : ∀ v, sizeXs Tryz.prog Tryz.f141.results.toList (res v) = true) (hn : ∀ v, (args v).length ≤ 8 ∧ ∀ n ∈ ni, (args v).length ≤ n) (hni : ni.Nodup) (hno : no.Nodup) (h : ∀ u : Gh, RunQ Tryz.prog (fun E => ∃ u' : Gh, resP E [.cella 2] = some (res u'.1) ∧ (∀ i, i < hin.length → u'.1 i = u.1 i) ∧ GetH E (fun i => decide (hin.length ≤ i)) u' no hout 0) [.code c_impl_copyDraft] (envH (fun _ => false) u ni hin 0 ++ argEnv (args u.1) 0)) : CallsH Tryz.prog F_impl_copyDraft hin hout args res := callsH_of_run ni no Tryz.func141 k_impl_copyDraft hs hn hni hno h

-- slices.Clone[[]loop.example/g03003/impl.Used,loop.example/g03003/impl.Used]
def c_slices_Clone_impl_Used_r0 : List GOp := [⟨some 5, none, .bslo T_impl_Used 2 24 []⟩,
  ⟨some 6, none, .mv (.t 0)⟩,
  ⟨some 7, none, .app T_impl_Used 2 24 (.t 5) (.t 6)⟩,
  ⟨some 2, none, .asg true (.t 7)⟩]
def c_slices_Clone_impl_Used_r1 : List GOp := [⟨some 2, none, .nilo T_impl_Used 2 24⟩]
def c_slices_Clone_impl_Used_r2 : List GOp := [⟨some 3, none, .mv (.t 0)⟩,
  ⟨some 4, none, .isn false (.t 3)⟩]
def c_slices_Clone_impl_Used_r3 : List GOp := [⟨some 2, none, .nilo T_impl_Used 2 24⟩]
def c_slices_Clone_impl_Used : CC := .seq (.reg none c_slices_Clone_impl_Used_r3 [0]) (.seq (.seq (.reg none c_slices_Clone_impl_Used_r2 [0, 4]) (.cnd (.t 4) (.seq (.reg none c_slices_Clone_impl_Used_r1 [2]) (.ret)) (.skip))) (.seq (.reg none c_slices_Clone_impl_Used_r0 [2]) (.ret)))
theorem k_slices_Clone_impl_Used : chkF Tryz.prog Tryz.f143 c_slices_Clone_impl_Used [.tmp 2] = true := by kernel_rfl
theorem S_slices_Clone_impl_Used {args : List AV} {r : List RV} (hs : sizeXs Tryz.prog Tryz.f143.results.toList r = true) (hn : args.length ≤ 8) (h : Run Tryz.prog [.tmp 2] [.code c_slices_Clone_impl_Used] (argEnv args 0) r) : CallsOK Tryz.prog F_slices_Clone_impl_Used args r := callsOK Tryz.func143 k_slices_Clone_impl_Used hs hn h

-- loop.example/g03003/impl.copyCorrections
def c_impl_copyCorrections_r0 : List GOp := [⟨some 21, none, .mv (.t 3)⟩,
  ⟨some 2, none, .asg true (.t 21)⟩]
def c_impl_copyCorrections_r1 : List GOp := [⟨some 20, none, .bin .add (.t 8) (.c (.int .i64 1))⟩,
  ⟨some 8, none, .mv (.t 20)⟩]
def c_impl_copyCorrections_r2 : List GOp := [⟨some 16, none, .mv (.t 3)⟩,
  ⟨some 17, none, .lda 5 (.t 5)⟩,
  ⟨some 18, none, .bsl 5 [.t 17]⟩,
  ⟨some 19, none, .app T_impl_Correction 5 56 (.t 16) (.t 18)⟩,
  ⟨some 3, none, .asg true (.t 19)⟩]
def c_impl_copyCorrections_r3 : List GOp := [⟨some 12, none, .fld (.t 5) 2⟩,
  ⟨some 13, none, .lda 2 (.t 12)⟩,
  ⟨some 14, none, .call F_impl_copyClue [.t 13]⟩,
  ⟨some 15, none, .fld (.t 5) 2⟩,
  ⟨none, none, .sto 2 (.t 15) (.t 14)⟩]
def c_impl_copyCorrections_r4 : List GOp := [⟨some 10, none, .idx 5 (.t 6) (.t 8)⟩,
  ⟨some 11, none, .lda 5 (.t 10)⟩,
  ⟨some 5, none, .alc [.int .i64 0, .int .i64 0, .int .i64 0, .sl 4 [], .int .i64 0]⟩,
  ⟨none, none, .sto 5 (.t 5) (.t 11)⟩]
def c_impl_copyCorrections_r5 : List GOp := [⟨some 9, none, .bin .lss (.t 8) (.t 7)⟩]
def c_impl_copyCorrections_b0 : CC := .seq (.reg none c_impl_copyCorrections_r5 [0, 3, 6, 7, 8, 9, 1000, 1001, 1002, 1003, 1004, 1005, 1006, 1007, 1008, 1009]) (.seq (.cnd (.t 9) (.skip) (.exit 0)) (.seq (.blk 1 (.seq (.reg none c_impl_copyCorrections_r4 [0, 3, 5, 6, 7, 8, 1000, 1001, 1002, 1003, 1004, 1005, 1006, 1007, 1008, 1009]) (.seq (.reg none c_impl_copyCorrections_r3 [0, 3, 5, 6, 7, 8, 1000, 1001, 1002, 1003, 1004, 1005, 1006, 1007, 1008, 1009]) (.reg none c_impl_copyCorrections_r2 [0, 3, 6, 7, 8, 1000, 1001, 1002, 1003, 1004, 1005, 1006, 1007, 1008, 1009])))) (.reg none c_impl_copyCorrections_r1 [0, 3, 6, 7, 8, 1000, 1001, 1002, 1003, 1004, 1005, 1006, 1007, 1008, 1009])))
def c_impl_copyCorrections_r6 : List GOp := [⟨some 6, none, .mv (.t 0)⟩,
  ⟨some 7, none, .len (.t 6)⟩,
  ⟨some 8, none, .mv (.c (.int .i64 0))⟩]
def c_impl_copyCorrections_r7 : List GOp := [⟨some 3, none, .nilo T_impl_Correction 5 56⟩]
def c_impl_copyCorrections_r8 : List GOp := [⟨some 2, none, .nilo T_impl_Correction 5 56⟩]
def c_impl_copyCorrections : CC := .seq (.reg none c_impl_copyCorrections_r8 [0, 1000, 1001, 1002, 1003, 1004, 1005, 1006, 1007, 1008, 1009]) (.seq (.reg none c_impl_copyCorrections_r7 [0, 3, 1000, 1001, 1002, 1003, 1004, 1005, 1006, 1007, 1008, 1009]) (.seq (.seq (.reg none c_impl_copyCorrections_r6 [0, 3, 6, 7, 8, 1000, 1001, 1002, 1003, 1004, 1005, 1006, 1007, 1008, 1009]) (.blk 0 (.loop c_impl_copyCorrections_b0 [0, 3, 6, 7, 8, 1000, 1001, 1002, 1003, 1004, 1005, 1006, 1007, 1008, 1009]))) (.seq (.reg none c_impl_copyCorrections_r0 [2, 1000, 1001, 1002, 1003, 1004, 1005, 1006, 1007, 1008, 1009]) (.ret))))
abbrev L_impl_copyCorrections_0 (P : Program) (Q : Env → Prop) (E : Env) : Prop := RunQ P Q (.code c_impl_copyCorrections_b0 :: .lp c_impl_copyCorrections_b0 [0, 3, 6, 7, 8, 1000, 1001, 1002, 1003, 1004, 1005, 1006, 1007, 1008, 1009] :: [.blk 0, .code (.seq (.reg none c_impl_copyCorrections_r0 [2, 1000, 1001, 1002, 1003, 1004, 1005, 1006, 1007, 1008, 1009]) (.ret))]) E
theorem k_impl_copyCorrections : chkF Tryz.prog Tryz.f144 c_impl_copyCorrections [.tmp 2] = true := by kernel_rfl
theorem S_impl_copyCorrections {args : List AV} {r : List RV} (hs : sizeXs Tryz.prog Tryz.f144.results.toList r = true) (hn : args.length ≤ 22) (h : Run Tryz.prog [.tmp 2] [.code c_impl_copyCorrections] (argEnv args 0) r) : CallsOK Tryz.prog F_impl_copyCorrections args r := callsOK Tryz.func144 k_impl_copyCorrections hs hn h
theorem SH_impl_copyCorrections {args : (Nat → Value) → List AV} {res : (Nat → Value) → List RV} {hin hout : List HT} (ni no : List Nat) (hs : ∀ v, sizeXs Tryz.prog Tryz.f144.results.toList (res v) = true) (hn : ∀ v, (args v).length ≤ 22 ∧ ∀ n ∈ ni, (args v).length ≤ n) (hni : ni.Nodup) (hno : no.Nodup) (h : ∀ u : Gh, RunQ Tryz.prog (fun E => ∃ u' : Gh, resP E [.tmp 2] = some (res u'.1) ∧ (∀ i, i < hin.length → u'.1 i = u.1 i) ∧ GetH E (fun i => decide (hin.length ≤ i)) u' no hout 0) [.code c_impl_copyCorrections] (envH (fun _ => false) u ni hin 0 ++ argEnv (args u.1) 0)) : CallsH Tryz.prog F_impl_copyCorrections hin hout args res := callsH_of_run ni no Tryz.func144 k_impl_copyCorrections hs hn hni hno h

-- slices.Clone[[]loop.example/g03003/impl.Entry,loop.example/g03003/impl.Entry]
def c_slices_Clone_impl_Entry_r0 : List GOp := [⟨some 5, none, .bslo T_impl_Entry 4 40 []⟩,
  ⟨some 6, none, .mv (.t 0)⟩,
  ⟨some 7, none, .app T_impl_Entry 4 40 (.t 5) (.t 6)⟩,
  ⟨some 2, none, .asg true (.t 7)⟩]
def c_slices_Clone_impl_Entry_r1 : List GOp := [⟨some 2, none, .nilo T_impl_Entry 4 40⟩]
def c_slices_Clone_impl_Entry_r2 : List GOp := [⟨some 3, none, .mv (.t 0)⟩,
  ⟨some 4, none, .isn false (.t 3)⟩]
def c_slices_Clone_impl_Entry_r3 : List GOp := [⟨some 2, none, .nilo T_impl_Entry 4 40⟩]
def c_slices_Clone_impl_Entry : CC := .seq (.reg none c_slices_Clone_impl_Entry_r3 [0]) (.seq (.seq (.reg none c_slices_Clone_impl_Entry_r2 [0, 4]) (.cnd (.t 4) (.seq (.reg none c_slices_Clone_impl_Entry_r1 [2]) (.ret)) (.skip))) (.seq (.reg none c_slices_Clone_impl_Entry_r0 [2]) (.ret)))
theorem k_slices_Clone_impl_Entry : chkF Tryz.prog Tryz.f145 c_slices_Clone_impl_Entry [.tmp 2] = true := by kernel_rfl
theorem S_slices_Clone_impl_Entry {args : List AV} {r : List RV} (hs : sizeXs Tryz.prog Tryz.f145.results.toList r = true) (hn : args.length ≤ 8) (h : Run Tryz.prog [.tmp 2] [.code c_slices_Clone_impl_Entry] (argEnv args 0) r) : CallsOK Tryz.prog F_slices_Clone_impl_Entry args r := callsOK Tryz.func145 k_slices_Clone_impl_Entry hs hn h

-- loop.example/g03003/impl.IsList
def c_impl_IsList_r0 : List GOp := [⟨some 2, none, .asg false (.c (.bool true))⟩]
def c_impl_IsList_r1 : List GOp := [⟨some 54, none, .bin .add (.t 10) (.c (.int .i64 1))⟩,
  ⟨some 10, none, .mv (.t 54)⟩]
def c_impl_IsList_r2 : List GOp := [⟨some 2, none, .asg false (.c (.bool false))⟩]
def c_impl_IsList_r3 : List GOp := [⟨some 15, none, .mv (.t 3)⟩,
  ⟨some 16, none, .bin .gtr (.t 15) (.c (.int .i64 0))⟩,
  ⟨some 17, none, .mv (.t 16)⟩,
  ⟨some 18, some (17, true), .mv (.t 0)⟩,
  ⟨some 19, some (17, true), .mv (.t 3)⟩,
  ⟨some 20, some (17, true), .bin .sub (.t 19) (.c (.int .i64 1))⟩,
  ⟨some 21, some (17, true), .idx 4 (.t 18) (.t 20)⟩,
  ⟨some 22, some (17, true), .fld (.t 21) 0⟩,
  ⟨some 23, some (17, true), .ld (.t 22)⟩,
  ⟨some 24, some (17, true), .fld (.t 4) 0⟩,
  ⟨some 25, some (17, true), .ld (.t 24)⟩,
  ⟨some 26, some (17, true), .call F_impl_BeforeWord [.t 23, .t 25]⟩,
  ⟨some 27, some (17, true), .not (.t 26)⟩,
  ⟨some 28, none, .pick (.t 17) (.t 27) (.c (.bool false))⟩,
  ⟨some 29, none, .mv (.t 28)⟩,
  ⟨some 30, some (29, false), .fld (.t 4) 0⟩,
  ⟨some 31, some (29, false), .ld (.t 30)⟩,
  ⟨some 32, some (29, false), .call F_impl_IsWord [.t 31]⟩,
  ⟨some 33, some (29, false), .not (.t 32)⟩,
  ⟨some 34, none, .pick (.t 29) (.c (.bool true)) (.t 33)⟩,
  ⟨some 35, none, .mv (.t 34)⟩,
  ⟨some 36, some (35, false), .fld (.t 4) 1⟩,
  ⟨some 37, some (35, false), .ld (.t 36)⟩,
  ⟨some 38, some (35, false), .fld (.t 4) 2⟩,
  ⟨some 39, some (35, false), .ld (.t 38)⟩,
  ⟨some 40, some (35, false), .call F_impl_InRange [.t 37, .c (.int .i64 0), .t 39]⟩,
  ⟨some 41, some (35, false), .not (.t 40)⟩,
  ⟨some 42, none, .pick (.t 35) (.c (.bool true)) (.t 41)⟩,
  ⟨some 43, none, .mv (.t 42)⟩,
  ⟨some 44, some (43, false), .fld (.t 4) 2⟩,
  ⟨some 45, some (43, false), .ld (.t 44)⟩,
  ⟨some 46, some (43, false), .bin .gtr (.t 45) (.c (.int .i64 1000))⟩,
  ⟨some 47, none, .pick (.t 43) (.c (.bool true)) (.t 46)⟩,
  ⟨some 48, none, .mv (.t 47)⟩,
  ⟨some 49, some (48, false), .fld (.t 4) 3⟩,
  ⟨some 50, some (48, false), .ld (.t 49)⟩,
  ⟨some 51, some (48, false), .call F_impl_InRange [.t 50, .c (.int .i64 0), .c (.int .i64 99)]⟩,
  ⟨some 52, some (48, false), .not (.t 51)⟩,
  ⟨some 53, none, .pick (.t 48) (.c (.bool true)) (.t 52)⟩]
def c_impl_IsList_r4 : List GOp := [⟨some 12, none, .mv (.t 10)⟩,
  ⟨some 13, none, .idx 4 (.t 8) (.t 10)⟩,
  ⟨some 14, none, .lda 4 (.t 13)⟩,
  ⟨some 4, none, .alc [.str [], .int .i64 0, .int .i64 0, .int .i64 0]⟩,
  ⟨some 3, none, .asg true (.t 12)⟩,
  ⟨none, none, .sto 4 (.t 4) (.t 14)⟩]
def c_impl_IsList_r5 : List GOp := [⟨some 11, none, .bin .lss (.t 10) (.t 9)⟩]
def c_impl_IsList_b0 : CC := .seq (.reg none c_impl_IsList_r5 [0, 8, 9, 10, 11]) (.seq (.cnd (.t 11) (.skip) (.exit 0)) (.seq (.blk 1 (.seq (.reg none c_impl_IsList_r4 [0, 3, 4, 8, 9, 10]) (.seq (.reg (some (39, [[], [0], [0, 1], [0, 1, 2], [0, 1, 2], [0, 1, 2, 4], [0, 1, 2, 3, 4, 5], [0, 1, 2, 3, 4, 5, 6], [0, 1, 2, 3, 4, 5, 6, 7], [0, 1, 2], [0, 1, 2, 9], [0, 1, 2, 3, 4, 5, 6, 7, 8, 9, 10], [0, 1, 2, 3, 4, 5, 6, 7, 8, 9, 10, 11], [0, 1, 2, 3, 4, 5, 6, 7, 8, 9, 10, 11, 12], [0, 1, 2, 3, 4, 5, 6, 7, 8, 9, 10, 11, 12, 13], [0, 1, 2, 3, 4, 5, 6, 7, 8, 9, 10, 11, 12, 13, 14], [0, 1, 2, 3, 4, 5, 6, 7, 8, 9, 10, 11, 12, 13, 14, 15], [0, 1, 2, 3, 4, 5, 6, 7, 8, 9, 10, 11, 12, 13, 14, 15, 16], [0, 1, 2, 3, 4, 5, 6, 7, 8, 9, 10, 11, 12, 13, 14, 15, 16, 17], [0, 1, 2, 3, 4, 5, 6, 7, 8, 9, 10, 11, 12, 13, 14, 15, 16, 17, 18], [0, 1, 2, 3, 4, 5, 6, 7, 8, 9, 10, 11, 12, 13, 14, 15, 16, 17, 18, 19], [0, 1, 2, 3, 4, 5, 6, 7, 8, 9, 10, 11, 12, 13, 14, 15, 16, 17, 18, 19, 20], [0, 1, 2, 3, 4, 5, 6, 7, 8, 9, 10, 11, 12, 13, 14, 15, 16, 17, 18, 19, 20, 21], [0, 1, 2, 3, 4, 5, 6, 7, 8, 9, 10, 11, 12, 13, 14, 15, 16, 17, 18, 19, 20], [0, 1, 2, 3, 4, 5, 6, 7, 8, 9, 10, 11, 12, 13, 14, 15, 16, 17, 18, 19, 20, 23], [0, 1, 2, 3, 4, 5, 6, 7, 8, 9, 10, 11, 12, 13, 14, 15, 16, 17, 18, 19, 20, 21, 22, 23, 24], [0, 1, 2, 3, 4, 5, 6, 7, 8, 9, 10, 11, 12, 13, 14, 15, 16, 17, 18, 19, 20, 21, 22, 23, 24, 25], [0, 1, 2, 3, 4, 5, 6, 7, 8, 9, 10, 11, 12, 13, 14, 15, 16, 17, 18, 19, 20, 21, 22, 23, 24, 25, 26], [0, 1, 2, 3, 4, 5, 6, 7, 8, 9, 10, 11, 12, 13, 14, 15, 16, 17, 18, 19, 20, 21, 22, 23, 24, 25, 26, 27], [0, 1, 2, 3, 4, 5, 6, 7, 8, 9, 10, 11, 12, 13, 14, 15, 16, 17, 18, 19, 20, 21, 22, 23, 24, 25, 26, 27, 28], [0, 1, 2, 3, 4, 5, 6, 7, 8, 9, 10, 11, 12, 13, 14, 15, 16, 17, 18, 19, 20, 21, 22, 23, 24, 25, 26, 27, 28, 29], [0, 1, 2, 3, 4, 5, 6, 7, 8, 9, 10, 11, 12, 13, 14, 15, 16, 17, 18, 19, 20, 21, 22, 23, 24, 25, 26, 27, 28, 29, 30], [0, 1, 2, 3, 4, 5, 6, 7, 8, 9, 10, 11, 12, 13, 14, 15, 16, 17, 18, 19, 20, 21, 22, 23, 24, 25, 26, 27, 28, 29, 30, 31], [0, 1, 2, 3, 4, 5, 6, 7, 8, 9, 10, 11, 12, 13, 14, 15, 16, 17, 18, 19, 20, 21, 22, 23, 24, 25, 26, 27, 28, 29, 30, 31, 32], [0, 1, 2, 3, 4, 5, 6, 7, 8, 9, 10, 11, 12, 13, 14, 15, 16, 17, 18, 19, 20, 21, 22, 23, 24, 25, 26, 27, 28, 29, 30, 31, 32, 33], [0, 1, 2, 3, 4, 5, 6, 7, 8, 9, 10, 11, 12, 13, 14, 15, 16, 17, 18, 19, 20, 21, 22, 23, 24, 25, 26, 27, 28, 29, 30, 31, 32, 33, 34], [0, 1, 2, 3, 4, 5, 6, 7, 8, 9, 10, 11, 12, 13, 14, 15, 16, 17, 18, 19, 20, 21, 22, 23, 24, 25, 26, 27, 28, 29, 30, 31, 32, 33, 34, 35], [0, 1, 2, 3, 4, 5, 6, 7, 8, 9, 10, 11, 12, 13, 14, 15, 16, 17, 18, 19, 20, 21, 22, 23, 24, 25, 26, 27, 28, 29, 30, 31, 32, 33, 34, 35, 36], [0, 1, 2, 3, 4, 5, 6, 7, 8, 9, 10, 11, 12, 13, 14, 15, 16, 17, 18, 19, 20, 21, 22, 23, 24, 25, 26, 27, 28, 29, 30, 31, 32, 33, 34, 35, 36, 37]])) c_impl_IsList_r3 [0, 8, 9, 10, 53]) (.cnd (.t 53) (.seq (.reg none c_impl_IsList_r2 [2]) (.ret)) (.skip))))) (.reg none c_impl_IsList_r1 [0, 8, 9, 10])))
def c_impl_IsList_r6 : List GOp := [⟨some 8, none, .mv (.t 0)⟩,
  ⟨some 9, none, .len (.t 8)⟩,
  ⟨some 10, none, .mv (.c (.int .i64 0))⟩]
def c_impl_IsList_r7 : List GOp := [⟨some 2, none, .asg false (.c (.bool false))⟩]
def c_impl_IsList_r8 : List GOp := [⟨some 5, none, .mv (.t 0)⟩,
  ⟨some 6, none, .len (.t 5)⟩,
  ⟨some 7, none, .bin .gtr (.t 6) (.c (.int .i64 40))⟩]
def c_impl_IsList_r9 : List GOp := [⟨some 2, none, .asg false (.c (.bool false))⟩]
def c_impl_IsList : CC := .seq (.reg none c_impl_IsList_r9 [0]) (.seq (.seq (.reg none c_impl_IsList_r8 [0, 7]) (.cnd (.t 7) (.seq (.reg none c_impl_IsList_r7 [2]) (.ret)) (.skip))) (.seq (.seq (.reg none c_impl_IsList_r6 [0, 8, 9, 10]) (.blk 0 (.loop c_impl_IsList_b0 [0, 8, 9, 10]))) (.seq (.reg none c_impl_IsList_r0 [2]) (.ret))))
abbrev L_impl_IsList_0 (P : Program) (E : Env) (r : List RV) : Prop := Run P [.tmp 2] (.code c_impl_IsList_b0 :: .lp c_impl_IsList_b0 [0, 8, 9, 10] :: [.blk 0, .code (.seq (.reg none c_impl_IsList_r0 [2]) (.ret))]) E r
theorem k_impl_IsList : chkF Tryz.prog Tryz.f146 c_impl_IsList [.tmp 2] = true := by kernel_rfl
theorem S_impl_IsList {args : List AV} {r : List RV} (hs : sizeXs Tryz.prog Tryz.f146.results.toList r = true) (hn : args.length ≤ 55) (h : Run Tryz.prog [.tmp 2] [.code c_impl_IsList] (argEnv args 0) r) : CallsOK Tryz.prog F_impl_IsList args r := callsOK Tryz.func146 k_impl_IsList hs hn h

end Go.Rd
