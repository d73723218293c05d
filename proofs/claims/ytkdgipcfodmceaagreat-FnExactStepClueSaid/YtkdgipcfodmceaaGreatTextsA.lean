import Derived.Test.YtkdgipcfodmceaaGreatNames
/- The texts of the functions, each checked against the program. No condition. -/
set_option maxRecDepth 100000
namespace Go.Rd
open Go.Proofs
def q4r0 := [gO 6 (.asg false (.c (.bool true)))]
def q4r1 := [gO 6 (.asg false (.c (.bool false)))]
def q4r2 := [gV 121 16, gV 122 15, gO 123 (.bin .neq (.t 121) (.t 122))]
def q4r3 := [gO 6 (.asg false (.c (.bool false)))]
def q4r4 := [gV 119 16, gO 120 (.bin .lss (.t 119) (xI 0))]
def q4r5 := [gO 116 (.lda 13 (.t 12)), gV 117 16, gO 118 (.call F_laws_heldHouse [.t 116, .t 117]), gO 16 (.asg true (.t 118))]
def q4r6 := [gO 16 (.asg false (xI 1))]
def q4r7 := [gO 6 (.asg false (.c (.bool false)))]
def q4r8 := [gO 107 (.lda 13 (.t 17)), gO 108 (.lda 13 (.t 8)), gO 109 (.call F_laws_eqHouse [.t 107, .t 108]), gO 110 (.not (.t 109)), gV 111 110, gN 112 111 (.mv (.t 18)), gN 113 111 (.mv (.t 9)), gN 114 111 (.eqb true (.t 112) (.t 113)), gO 115 (.pick (.t 111) (.c (.bool true)) (.t 114))]
def q4r9 := [gO 99 (.lda 13 (.t 3)), gO 100 (.call F_laws_toHouse [.t 99]), gV 101 1, gO 102 (.lda 2 (.t 5)), gO 103 (.call F_laws_toClue [.t 102]), gO 104 (.call F_impl_StepClue [.t 100, .t 101, .t 103]), gV 98 104, gO 105 (.ext (.t 98) 0), gO 106 (.ext (.t 98) 1), gO 17 (.alc [.sl 4 [], .sl 2 [], .int .i64 0, .int .i64 0, .str [], .str [], .sl 2 [], .int .i64 0, .sl 10 [], .sl 2 [], .sl 5 [], .sl 4 [], .int .i64 0]), gS (.sto 13 (.t 17) (.t 105)), gV 18 106]
def q4r10 := [gO 6 (.asg false (.c (.bool false)))]
def q4r11 := [gV 95 16, gV 96 15, gO 97 (.bin .neq (.t 95) (.t 96))]
def q4r12 := [gO 6 (.asg false (.c (.bool false)))]
def q4r13 := [gV 93 16, gO 94 (.bin .lss (.t 93) (xI 0))]
def q4r14 := [gO 90 (.lda 13 (.t 12)), gV 91 16, gO 92 (.call F_laws_heldHouse [.t 90, .t 91]), gO 16 (.asg true (.t 92))]
def q4r15 := [gO 16 (.asg false (xI 1))]
def q4r16 := [gO 87 (.lda 13 (.t 12)), gV 88 15, gO 89 (.call F_laws_markHouse [.t 87, .t 88]), gO 15 (.asg true (.t 89))]
def q4r17 := [gO 15 (.asg false (xI 1))]
def q4r18 := [gO 6 (.asg false (.c (.bool false)))]
def q4r19 := [gV 74 14, gO 75 (.bin .lss (.t 74) (xI 0)), gV 76 75, gN 77 76 (.lda 13 (.t 12)), gN 78 76 (.lda 13 (.t 8)), gN 79 76 (.call F_laws_eqHouse [.t 77, .t 78]), gN 80 76 (.not (.t 79)), gO 81 (.pick (.t 76) (.c (.bool true)) (.t 80)), gV 82 81, gN 83 82 (.mv (.t 13)), gN 84 82 (.mv (.t 9)), gN 85 82 (.eqb true (.t 83) (.t 84)), gO 86 (.pick (.t 82) (.c (.bool true)) (.t 85))]
def q4r20 := [gO 71 (.lda 2 (.t 11)), gV 72 14, gO 73 (.call F_laws_markClue [.t 71, .t 72]), gO 14 (.asg true (.t 73))]
def q4r21 := [gO 68 (.lda 13 (.t 10)), gV 69 14, gO 70 (.call F_laws_markHouse [.t 68, .t 69]), gO 14 (.asg true (.t 70))]
def q4r22 := [gO 14 (.asg false (xI 1))]
def q4r23 := [gO 6 (.asg false (.c (.bool false)))]
def q4r24 := [gO 63 (.lda 2 (.t 11)), gO 64 (.lda 2 (.t 5)), gO 65 (.call F_laws_toClue [.t 64]), gO 66 (.call F_laws_eqClue [.t 63, .t 65]), gO 67 (.not (.t 66))]
def q4r25 := [gO 6 (.asg false (.c (.bool false)))]
def q4r26 := [gO 58 (.lda 13 (.t 10)), gO 59 (.lda 13 (.t 3)), gO 60 (.call F_laws_toHouse [.t 59]), gO 61 (.call F_laws_eqHouse [.t 58, .t 60]), gO 62 (.not (.t 61))]
def q4r27 := [gO 6 (.asg false (.c (.bool false)))]
def q4r28 := [gO 49 (.lda 13 (.t 12)), gO 50 (.lda 13 (.t 8)), gO 51 (.call F_laws_eqHouse [.t 49, .t 50]), gO 52 (.not (.t 51)), gV 53 52, gN 54 53 (.mv (.t 13)), gN 55 53 (.mv (.t 9)), gN 56 53 (.eqb true (.t 54) (.t 55)), gO 57 (.pick (.t 53) (.c (.bool true)) (.t 56))]
def q4r29 := [gO 43 (.lda 13 (.t 10)), gV 44 1, gO 45 (.lda 2 (.t 11)), gO 46 (.call F_impl_StepClue [.t 43, .t 44, .t 45]), gV 42 46, gO 47 (.ext (.t 42) 0), gO 48 (.ext (.t 42) 1), gO 12 (.alc [.sl 4 [], .sl 2 [], .int .i64 0, .int .i64 0, .str [], .str [], .sl 2 [], .int .i64 0, .sl 10 [], .sl 2 [], .sl 5 [], .sl 4 [], .int .i64 0]), gS (.sto 13 (.t 12) (.t 47)), gO 13 (.asg true (.t 48))]
def q4r30 := [gO 40 (.lda 2 (.t 5)), gO 41 (.call F_laws_toClue [.t 40]), gO 11 (.alc [.int .i64 0, .sl 4 []]), gS (.sto 2 (.t 11) (.t 41))]
def q4r31 := [gO 38 (.lda 13 (.t 3)), gO 39 (.call F_laws_toHouse [.t 38]), gO 10 (.alc [.sl 4 [], .sl 2 [], .int .i64 0, .int .i64 0, .str [], .str [], .sl 2 [], .int .i64 0, .sl 10 [], .sl 2 [], .sl 5 [], .sl 4 [], .int .i64 0]), gS (.sto 13 (.t 10) (.t 39))]
def q4r32 := [gO 30 (.lda 13 (.t 3)), gO 31 (.call F_laws_toHouse [.t 30]), gV 32 1, gO 33 (.lda 2 (.t 5)), gO 34 (.call F_laws_toClue [.t 33]), gO 35 (.call F_spec_StepClue [.t 31, .t 32, .t 34]), gV 29 35, gO 36 (.ext (.t 29) 0), gO 37 (.ext (.t 29) 1), gO 8 (.alc [.sl 4 [], .sl 2 [], .int .i64 0, .int .i64 0, .str [], .str [], .sl 2 [], .int .i64 0, .sl 10 [], .sl 2 [], .sl 5 [], .sl 4 [], .int .i64 0]), gS (.sto 13 (.t 8) (.t 36)), gV 9 37]
def q4r33 := [gO 6 (.asg false (.c (.bool true)))]
def q4r34 := [gV 27 7, gO 28 (.bin .lss (.t 27) (xI 0))]
def q4r35 := [gO 24 (.lda 2 (.t 5)), gV 25 7, gO 26 (.call F_laws_szClue [.t 24, .t 25]), gO 7 (.asg true (.t 26))]
def q4r36 := [gO 6 (.asg false (.c (.bool true)))]
def q4r37 := [gV 22 7, gO 23 (.bin .lss (.t 22) (xI 0))]
def q4r38 := [gO 19 (.lda 13 (.t 3)), gV 20 7, gO 21 (.call F_laws_szHouse [.t 19, .t 20]), gO 7 (.asg true (.t 21))]
def q4r39 := [gO 7 (.asg false (xI 1048576))]
def q4r40 := [gO 3 (.box (.t 0)), gO 5 (.box (.t 2)), gO 6 (.asg false (.c (.bool false)))]
def q4 : CC := .seq (.reg none q4r40 (nM [1, 3, 5])) (.seq (.reg none q4r39 (nM [1, 3, 5, 7])) (.seq (.reg none q4r38 (nM [1, 3, 5, 7])) (.seq (.seq (.reg none q4r37 (nM [1, 3, 5, 7, 23])) (.cnd (.t 23) (.seq (.reg none q4r36 (nM [6])) (.ret)) (.skip))) (.seq (.reg none q4r35 (nM [1, 3, 5, 7])) (.seq (.seq (.reg none q4r34 (nM [1, 3, 5, 28])) (.cnd (.t 28) (.seq (.reg none q4r33 (nM [6])) (.ret)) (.skip))) (.seq (.any [[], [0], [], [], [0, 1, 3], [0, 1, 2, 3, 4], [0, 1, 2, 3, 4, 5], [0, 1, 2, 3, 4, 5, 6], [0, 1, 2, 3, 4, 5, 6], [], [0, 1, 2, 3, 4, 5, 6, 7, 9], [0, 1, 2, 3, 4, 5, 6, 7, 8, 9, 10]] q4r32 (nM [1, 3, 5, 8, 9])) (.seq (.reg none q4r31 (nM [1, 3, 5, 8, 9, 10])) (.seq (.reg none q4r30 (nM [1, 3, 5, 8, 9, 10, 11])) (.seq (.reg none q4r29 (nM [1, 3, 5, 8, 9, 10, 11, 12, 13])) (.seq (.seq (.reg none q4r28 (nM [1, 3, 5, 8, 9, 10, 11, 12, 13, 57])) (.cnd (.t 57) (.seq (.reg none q4r27 (nM [6])) (.ret)) (.skip))) (.seq (.seq (.any [[], [], [1], [0, 1, 2], [0, 1, 2, 3]] q4r26 (nM [1, 3, 5, 8, 9, 10, 11, 12, 13, 62])) (.cnd (.t 62) (.seq (.reg none q4r25 (nM [6])) (.ret)) (.skip))) (.seq (.seq (.any [[], [], [1], [0, 1, 2], [0, 1, 2, 3]] q4r24 (nM [1, 3, 5, 8, 9, 10, 11, 12, 13, 67])) (.cnd (.t 67) (.seq (.reg none q4r23 (nM [6])) (.ret)) (.skip))) (.seq (.reg none q4r22 (nM [1, 3, 5, 8, 9, 10, 11, 12, 13, 14])) (.seq (.reg none q4r21 (nM [1, 3, 5, 8, 9, 11, 12, 13, 14])) (.seq (.reg none q4r20 (nM [1, 3, 5, 8, 9, 12, 13, 14])) (.seq (.seq (.reg none q4r19 (nM [1, 3, 5, 8, 9, 12, 86])) (.cnd (.t 86) (.seq (.reg none q4r18 (nM [6])) (.ret)) (.skip))) (.seq (.reg none q4r17 (nM [1, 3, 5, 8, 9, 12, 15])) (.seq (.reg none q4r16 (nM [1, 3, 5, 8, 9, 12, 15])) (.seq (.reg none q4r15 (nM [1, 3, 5, 8, 9, 12, 15, 16])) (.seq (.reg none q4r14 (nM [1, 3, 5, 8, 9, 12, 15, 16])) (.seq (.seq (.reg none q4r13 (nM [1, 3, 5, 8, 9, 12, 15, 16, 94])) (.cnd (.t 94) (.seq (.reg none q4r12 (nM [6])) (.ret)) (.skip))) (.seq (.seq (.reg none q4r11 (nM [1, 3, 5, 8, 9, 12, 15, 97])) (.cnd (.t 97) (.seq (.reg none q4r10 (nM [6])) (.ret)) (.skip))) (.seq (.any [[], [0], [], [], [0, 1, 3], [0, 1, 2, 3, 4], [0, 1, 2, 3, 4, 5], [0, 1, 2, 3, 4, 5, 6], [0, 1, 2, 3, 4, 5, 6], [], [0, 1, 2, 3, 4, 5, 6, 7, 9], [0, 1, 2, 3, 4, 5, 6, 7, 8, 9, 10]] q4r9 (nM [8, 9, 12, 15, 17, 18])) (.seq (.seq (.reg none q4r8 (nM [12, 15, 115])) (.cnd (.t 115) (.seq (.reg none q4r7 (nM [6])) (.ret)) (.skip))) (.seq (.reg none q4r6 (nM [12, 15, 16])) (.seq (.reg none q4r5 (nM [15, 16])) (.seq (.seq (.reg none q4r4 (nM [15, 16, 120])) (.cnd (.t 120) (.seq (.reg none q4r3 (nM [6])) (.ret)) (.skip))) (.seq (.seq (.reg none q4r2 (nM [123])) (.cnd (.t 123) (.seq (.reg none q4r1 (nM [6])) (.ret)) (.skip))) (.seq (.reg none q4r0 (nM [6])) (.ret))))))))))))))))))))))))))))))
theorem k4 : chkF PP Tryz.f4 q4 [.tmp 6] = true := by kernel_rfl
theorem S_laws_FnExactStepClue : SOf PP Tryz.f4 124 [.tmp 6] q4 F_laws_FnExactStepClue := fun hs hn h => callsOK Tryz.func4 k4 hs hn h

def q12r0 := [gV 26 1, gO 4 (.asg true (.t 26))]
def q12r1 := [gV 16 5, gO 17 (.bin .add (.t 16) (xI 1)), gO 5 (.asg true (.t 17))]
def q12r2 := [gO 4 (.asg false (.c (.int .i64 (-1))))]
def q12r3 := [gV 24 1, gO 25 (.bin .lss (.t 24) (xI 0))]
def q12r4 := [gV 18 0, gV 19 5, gO 20 (.idx 4 (.t 18) (.t 19)), gO 21 (.lda 4 (.t 20)), gV 22 1, gO 23 (.call F_laws_szListed [.t 21, .t 22]), gO 1 (.asg true (.t 23))]
def q12r5 := [gV 12 5, gV 13 0, gO 14 (.len (.t 13)), gO 15 (.bin .lss (.t 12) (.t 14))]
def q12b0 : CC := .seq (.seq (.reg none q12r5 [0, 1, 5, 15]) (.cnd (.t 15) (.skip) (.exit 0))) (.seq (.blk 1 (.seq (.reg none q12r4 [0, 1, 5]) (.seq (.reg none q12r3 [0, 1, 5, 25]) (.cnd (.t 25) (.seq (.reg none q12r2 [4]) (.ret)) (.skip))))) (.reg none q12r1 [0, 1, 5]))
def q12r6 := [gO 5 (.asg false (xI 0))]
def q12r7 := [gO 4 (.asg false (.c (.int .i64 (-1))))]
def q12r8 := [gV 10 1, gO 11 (.bin .lss (.t 10) (xI 0))]
def q12r9 := [gV 6 1, gV 7 0, gO 8 (.len (.t 7)), gO 9 (.bin .sub (.t 6) (.t 8)), gO 1 (.asg true (.t 9))]
def q12r10 := [gO 4 (.asg false (xI 0))]
def q12 : CC := .seq (.reg none q12r10 [0, 1]) (.seq (.reg none q12r9 [0, 1]) (.seq (.seq (.reg none q12r8 [0, 1, 11]) (.cnd (.t 11) (.seq (.reg none q12r7 [4]) (.ret)) (.skip))) (.seq (.seq (.reg none q12r6 [0, 1, 5]) (.blk 0 (.loop q12b0 [0, 1, 5]))) (.seq (.reg none q12r0 [4]) (.ret)))))
abbrev L_laws_szListedS_0 (P : Program) (E : Env) (r : List RV) : Prop := Run P [.tmp 4] (.code q12b0 :: .lp q12b0 [0, 1, 5] :: [.blk 0, .code (.seq (.reg none q12r0 [4]) (.ret))]) E r
theorem k12 : chkF PP Tryz.f12 q12 [.tmp 4] = true := by kernel_rfl
theorem S_laws_szListedS : SOf PP Tryz.f12 27 [.tmp 4] q12 F_laws_szListedS := fun hs hn h => callsOK Tryz.func12 k12 hs hn h

def q13r0 := [gV 26 1, gO 4 (.asg true (.t 26))]
def q13r1 := [gV 16 5, gO 17 (.bin .add (.t 16) (xI 1)), gO 5 (.asg true (.t 17))]
def q13r2 := [gO 4 (.asg false (.c (.int .i64 (-1))))]
def q13r3 := [gV 24 1, gO 25 (.bin .lss (.t 24) (xI 0))]
def q13r4 := [gV 18 0, gV 19 5, gO 20 (.idx 2 (.t 18) (.t 19)), gO 21 (.lda 2 (.t 20)), gV 22 1, gO 23 (.call F_laws_szMeaning [.t 21, .t 22]), gO 1 (.asg true (.t 23))]
def q13r5 := [gV 12 5, gV 13 0, gO 14 (.len (.t 13)), gO 15 (.bin .lss (.t 12) (.t 14))]
def q13b0 : CC := .seq (.seq (.reg none q13r5 [0, 1, 5, 15]) (.cnd (.t 15) (.skip) (.exit 0))) (.seq (.blk 1 (.seq (.reg none q13r4 [0, 1, 5]) (.seq (.reg none q13r3 [0, 1, 5, 25]) (.cnd (.t 25) (.seq (.reg none q13r2 [4]) (.ret)) (.skip))))) (.reg none q13r1 [0, 1, 5]))
def q13r6 := [gO 5 (.asg false (xI 0))]
def q13r7 := [gO 4 (.asg false (.c (.int .i64 (-1))))]
def q13r8 := [gV 10 1, gO 11 (.bin .lss (.t 10) (xI 0))]
def q13r9 := [gV 6 1, gV 7 0, gO 8 (.len (.t 7)), gO 9 (.bin .sub (.t 6) (.t 8)), gO 1 (.asg true (.t 9))]
def q13r10 := [gO 4 (.asg false (xI 0))]
def q13 : CC := .seq (.reg none q13r10 [0, 1]) (.seq (.reg none q13r9 [0, 1]) (.seq (.seq (.reg none q13r8 [0, 1, 11]) (.cnd (.t 11) (.seq (.reg none q13r7 [4]) (.ret)) (.skip))) (.seq (.seq (.reg none q13r6 [0, 1, 5]) (.blk 0 (.loop q13b0 [0, 1, 5]))) (.seq (.reg none q13r0 [4]) (.ret)))))
abbrev L_laws_szMeaningS_0 (P : Program) (E : Env) (r : List RV) : Prop := Run P [.tmp 4] (.code q13b0 :: .lp q13b0 [0, 1, 5] :: [.blk 0, .code (.seq (.reg none q13r0 [4]) (.ret))]) E r
theorem k13 : chkF PP Tryz.f13 q13 [.tmp 4] = true := by kernel_rfl
theorem S_laws_szMeaningS : SOf PP Tryz.f13 27 [.tmp 4] q13 F_laws_szMeaningS := fun hs hn h => callsOK Tryz.func13 k13 hs hn h

def q15r0 := [gV 22 3, gO 2 (.asg true (.t 22))]
def q15r1 := [gV 12 4, gO 13 (.bin .add (.t 12) (xI 1)), gO 4 (.asg true (.t 13))]
def q15r2 := [gV 14 3, gV 15 4, gV 16 0, gV 17 4, gO 18 (.idx 4 (.t 16) (.t 17)), gO 19 (.lda 4 (.t 18)), gO 20 (.call F_laws_toListed [.t 19]), gO 21 (.idx 4 (.t 14) (.t 15)), gS (.sto 4 (.t 21) (.t 20))]
def q15r3 := [gV 8 4, gV 9 0, gO 10 (.len (.t 9)), gO 11 (.bin .lss (.t 8) (.t 10))]
def q15b0 : CC := .seq (.seq (.reg none q15r3 [0, 3, 4, 11]) (.cnd (.t 11) (.skip) (.exit 0))) (.seq (.blk 1 (.reg none q15r2 [0, 3, 4])) (.reg none q15r1 [0, 3, 4]))
def q15r4 := [gO 4 (.asg false (xI 0))]
def q15r5 := [gV 5 0, gO 6 (.len (.t 5)), gO 7 (.mks T_impl_Listed 4 40 [.str [], .int .i64 0, .int .i64 0, .int .i64 0] (.t 6)), gO 3 (.asg true (.t 7))]
def q15r6 := [gO 2 (.nilo T_impl_Listed 4 40)]
def q15 : CC := .seq (.reg none q15r6 [0]) (.seq (.reg none q15r5 [0, 3]) (.seq (.seq (.reg none q15r4 [0, 3, 4]) (.blk 0 (.loop q15b0 [0, 3, 4]))) (.seq (.reg none q15r0 [2]) (.ret))))
abbrev L_laws_toListedS_0 (P : Program) (E : Env) (r : List RV) : Prop := Run P [.tmp 2] (.code q15b0 :: .lp q15b0 [0, 3, 4] :: [.blk 0, .code (.seq (.reg none q15r0 [2]) (.ret))]) E r
theorem k15 : chkF PP Tryz.f15 q15 [.tmp 2] = true := by kernel_rfl
theorem S_laws_toListedS : SOf PP Tryz.f15 23 [.tmp 2] q15 F_laws_toListedS := fun hs hn h => callsOK Tryz.func15 k15 hs hn h

def q16r0 := [gV 22 3, gO 2 (.asg true (.t 22))]
def q16r1 := [gV 12 4, gO 13 (.bin .add (.t 12) (xI 1)), gO 4 (.asg true (.t 13))]
def q16r2 := [gV 14 3, gV 15 4, gV 16 0, gV 17 4, gO 18 (.idx 2 (.t 16) (.t 17)), gO 19 (.lda 2 (.t 18)), gO 20 (.call F_laws_toMeaning [.t 19]), gO 21 (.idx 2 (.t 14) (.t 15)), gS (.sto 2 (.t 21) (.t 20))]
def q16r3 := [gV 8 4, gV 9 0, gO 10 (.len (.t 9)), gO 11 (.bin .lss (.t 8) (.t 10))]
def q16b0 : CC := .seq (.seq (.reg none q16r3 [0, 3, 4, 11]) (.cnd (.t 11) (.skip) (.exit 0))) (.seq (.blk 1 (.reg none q16r2 [0, 3, 4])) (.reg none q16r1 [0, 3, 4]))
def q16r4 := [gO 4 (.asg false (xI 0))]
def q16r5 := [gV 5 0, gO 6 (.len (.t 5)), gO 7 (.mks T_impl_Meaning 2 24 [.str [], .int .i64 0] (.t 6)), gO 3 (.asg true (.t 7))]
def q16r6 := [gO 2 (.nilo T_impl_Meaning 2 24)]
def q16 : CC := .seq (.reg none q16r6 [0]) (.seq (.reg none q16r5 [0, 3]) (.seq (.seq (.reg none q16r4 [0, 3, 4]) (.blk 0 (.loop q16b0 [0, 3, 4]))) (.seq (.reg none q16r0 [2]) (.ret))))
abbrev L_laws_toMeaningS_0 (P : Program) (E : Env) (r : List RV) : Prop := Run P [.tmp 2] (.code q16b0 :: .lp q16b0 [0, 3, 4] :: [.blk 0, .code (.seq (.reg none q16r0 [2]) (.ret))]) E r
theorem k16 : chkF PP Tryz.f16 q16 [.tmp 2] = true := by kernel_rfl
theorem S_laws_toMeaningS : SOf PP Tryz.f16 23 [.tmp 2] q16 F_laws_toMeaningS := fun hs hn h => callsOK Tryz.func16 k16 hs hn h

def q18r0 := [gO 4 (.asg false (.c (.bool true)))]
def q18r1 := [gO 4 (.asg false (.c (.bool false)))]
def q18r2 := [gO 47 (.fld (.t 2) 12), gO 48 (.ld (.t 47)), gO 49 (.fld (.t 3) 12), gO 50 (.ld (.t 49)), gO 51 (.bin .neq (.t 48) (.t 50))]
def q18r3 := [gO 4 (.asg false (.c (.bool false)))]
def q18r4 := [gO 41 (.fld (.t 2) 11), gO 42 (.ld (.t 41)), gO 43 (.fld (.t 3) 11), gO 44 (.ld (.t 43)), gO 45 (.call F_laws_eqEntryS [.t 42, .t 44]), gO 46 (.not (.t 45))]
def q18r5 := [gO 4 (.asg false (.c (.bool false)))]
def q18r6 := [gO 35 (.fld (.t 2) 10), gO 36 (.ld (.t 35)), gO 37 (.fld (.t 3) 10), gO 38 (.ld (.t 37)), gO 39 (.call F_laws_eqCorrectionS [.t 36, .t 38]), gO 40 (.not (.t 39))]
def q18r7 := [gO 4 (.asg false (.c (.bool false)))]
def q18r8 := [gO 29 (.fld (.t 2) 9), gO 30 (.ld (.t 29)), gO 31 (.fld (.t 3) 9), gO 32 (.ld (.t 31)), gO 33 (.call F_laws_eqUsedS [.t 30, .t 32]), gO 34 (.not (.t 33))]
def q18r9 := [gO 4 (.asg false (.c (.bool false)))]
def q18r10 := [gO 23 (.fld (.t 2) 8), gO 24 (.ld (.t 23)), gO 25 (.fld (.t 3) 8), gO 26 (.ld (.t 25)), gO 27 (.call F_laws_eqIssueS [.t 24, .t 26]), gO 28 (.not (.t 27))]
def q18r11 := [gO 4 (.asg false (.c (.bool false)))]
def q18r12 := [gO 17 (.fld (.t 2) 2), gO 18 (.lda 6 (.t 17)), gO 19 (.fld (.t 3) 2), gO 20 (.lda 6 (.t 19)), gO 21 (.call F_laws_eqDraft [.t 18, .t 20]), gO 22 (.not (.t 21))]
def q18r13 := [gO 4 (.asg false (.c (.bool false)))]
def q18r14 := [gO 11 (.fld (.t 2) 1), gO 12 (.ld (.t 11)), gO 13 (.fld (.t 3) 1), gO 14 (.ld (.t 13)), gO 15 (.call F_laws_eqMeaningS [.t 12, .t 14]), gO 16 (.not (.t 15))]
def q18r15 := [gO 4 (.asg false (.c (.bool false)))]
def q18r16 := [gO 5 (.fld (.t 2) 0), gO 6 (.ld (.t 5)), gO 7 (.fld (.t 3) 0), gO 8 (.ld (.t 7)), gO 9 (.call F_laws_eqListedS [.t 6, .t 8]), gO 10 (.not (.t 9))]
def q18r17 := [gO 2 (.box (.t 0)), gO 3 (.box (.t 1)), gO 4 (.asg false (.c (.bool false)))]
def q18 : CC := .seq (.reg none q18r17 [2, 3]) (.seq (.seq (.reg none q18r16 [2, 3, 10]) (.cnd (.t 10) (.seq (.reg none q18r15 [4]) (.ret)) (.skip))) (.seq (.seq (.reg none q18r14 [2, 3, 16]) (.cnd (.t 16) (.seq (.reg none q18r13 [4]) (.ret)) (.skip))) (.seq (.seq (.reg none q18r12 [2, 3, 22]) (.cnd (.t 22) (.seq (.reg none q18r11 [4]) (.ret)) (.skip))) (.seq (.seq (.reg none q18r10 [2, 3, 28]) (.cnd (.t 28) (.seq (.reg none q18r9 [4]) (.ret)) (.skip))) (.seq (.seq (.reg none q18r8 [2, 3, 34]) (.cnd (.t 34) (.seq (.reg none q18r7 [4]) (.ret)) (.skip))) (.seq (.seq (.reg none q18r6 [2, 3, 40]) (.cnd (.t 40) (.seq (.reg none q18r5 [4]) (.ret)) (.skip))) (.seq (.seq (.reg none q18r4 [2, 3, 46]) (.cnd (.t 46) (.seq (.reg none q18r3 [4]) (.ret)) (.skip))) (.seq (.seq (.reg none q18r2 [51]) (.cnd (.t 51) (.seq (.reg none q18r1 [4]) (.ret)) (.skip))) (.seq (.reg none q18r0 [4]) (.ret))))))))))
theorem k18 : chkF PP Tryz.f18 q18 [.tmp 4] = true := by kernel_rfl
theorem S_laws_eqHouse : SOf PP Tryz.f18 52 [.tmp 4] q18 F_laws_eqHouse := fun hs hn h => callsOK Tryz.func18 k18 hs hn h

def q19r0 := [gO 4 (.asg false (.c (.bool true)))]
def q19r1 := [gV 15 5, gO 16 (.bin .add (.t 15) (xI 1)), gO 5 (.asg true (.t 16))]
def q19r2 := [gO 4 (.asg false (.c (.bool false)))]
def q19r3 := [gV 17 0, gV 18 5, gO 19 (.idx 4 (.t 17) (.t 18)), gO 20 (.lda 4 (.t 19)), gV 21 1, gV 22 5, gO 23 (.idx 4 (.t 21) (.t 22)), gO 24 (.lda 4 (.t 23)), gO 25 (.call F_laws_eqListed [.t 20, .t 24]), gO 26 (.not (.t 25))]
def q19r4 := [gV 11 5, gV 12 0, gO 13 (.len (.t 12)), gO 14 (.bin .lss (.t 11) (.t 13))]
def q19b0 : CC := .seq (.seq (.reg none q19r4 [0, 1, 5, 14]) (.cnd (.t 14) (.skip) (.exit 0))) (.seq (.blk 1 (.seq (.reg (some (10, [[], [], [0, 1], [0, 1, 2], [], [], [4, 5], [4, 5, 6], [0, 1, 2, 3, 4, 5, 6, 7], [0, 1, 2, 3, 4, 5, 6, 7, 8]])) q19r3 [0, 1, 5, 26]) (.cnd (.t 26) (.seq (.reg none q19r2 [4]) (.ret)) (.skip)))) (.reg none q19r1 [0, 1, 5]))
def q19r5 := [gO 5 (.asg false (xI 0))]
def q19r6 := [gO 4 (.asg false (.c (.bool false)))]
def q19r7 := [gV 6 0, gO 7 (.len (.t 6)), gV 8 1, gO 9 (.len (.t 8)), gO 10 (.bin .neq (.t 7) (.t 9))]
def q19r8 := [gO 4 (.asg false (.c (.bool false)))]
def q19 : CC := .seq (.reg none q19r8 [0, 1]) (.seq (.seq (.reg none q19r7 [0, 1, 10]) (.cnd (.t 10) (.seq (.reg none q19r6 [4]) (.ret)) (.skip))) (.seq (.seq (.reg none q19r5 [0, 1, 5]) (.blk 0 (.loop q19b0 [0, 1, 5]))) (.seq (.reg none q19r0 [4]) (.ret))))
abbrev L_laws_eqListedS_0 (P : Program) (E : Env) (r : List RV) : Prop := Run P [.tmp 4] (.code q19b0 :: .lp q19b0 [0, 1, 5] :: [.blk 0, .code (.seq (.reg none q19r0 [4]) (.ret))]) E r
theorem k19 : chkF PP Tryz.f19 q19 [.tmp 4] = true := by kernel_rfl
theorem S_laws_eqListedS : SOf PP Tryz.f19 27 [.tmp 4] q19 F_laws_eqListedS := fun hs hn h => callsOK Tryz.func19 k19 hs hn h

def q20r0 := [gO 4 (.asg false (.c (.bool true)))]
def q20r1 := [gV 15 5, gO 16 (.bin .add (.t 15) (xI 1)), gO 5 (.asg true (.t 16))]
def q20r2 := [gO 4 (.asg false (.c (.bool false)))]
def q20r3 := [gV 17 0, gV 18 5, gO 19 (.idx 2 (.t 17) (.t 18)), gO 20 (.lda 2 (.t 19)), gV 21 1, gV 22 5, gO 23 (.idx 2 (.t 21) (.t 22)), gO 24 (.lda 2 (.t 23)), gO 25 (.call F_laws_eqMeaning [.t 20, .t 24]), gO 26 (.not (.t 25))]
def q20r4 := [gV 11 5, gV 12 0, gO 13 (.len (.t 12)), gO 14 (.bin .lss (.t 11) (.t 13))]
def q20b0 : CC := .seq (.seq (.reg none q20r4 [0, 1, 5, 14]) (.cnd (.t 14) (.skip) (.exit 0))) (.seq (.blk 1 (.seq (.reg (some (10, [[], [], [0, 1], [0, 1, 2], [], [], [4, 5], [4, 5, 6], [0, 1, 2, 3, 4, 5, 6, 7], [0, 1, 2, 3, 4, 5, 6, 7, 8]])) q20r3 [0, 1, 5, 26]) (.cnd (.t 26) (.seq (.reg none q20r2 [4]) (.ret)) (.skip)))) (.reg none q20r1 [0, 1, 5]))
def q20r5 := [gO 5 (.asg false (xI 0))]
def q20r6 := [gO 4 (.asg false (.c (.bool false)))]
def q20r7 := [gV 6 0, gO 7 (.len (.t 6)), gV 8 1, gO 9 (.len (.t 8)), gO 10 (.bin .neq (.t 7) (.t 9))]
def q20r8 := [gO 4 (.asg false (.c (.bool false)))]
def q20 : CC := .seq (.reg none q20r8 [0, 1]) (.seq (.seq (.reg none q20r7 [0, 1, 10]) (.cnd (.t 10) (.seq (.reg none q20r6 [4]) (.ret)) (.skip))) (.seq (.seq (.reg none q20r5 [0, 1, 5]) (.blk 0 (.loop q20b0 [0, 1, 5]))) (.seq (.reg none q20r0 [4]) (.ret))))
abbrev L_laws_eqMeaningS_0 (P : Program) (E : Env) (r : List RV) : Prop := Run P [.tmp 4] (.code q20b0 :: .lp q20b0 [0, 1, 5] :: [.blk 0, .code (.seq (.reg none q20r0 [4]) (.ret))]) E r
theorem k20 : chkF PP Tryz.f20 q20 [.tmp 4] = true := by kernel_rfl
theorem S_laws_eqMeaningS : SOf PP Tryz.f20 27 [.tmp 4] q20 F_laws_eqMeaningS := fun hs hn h => callsOK Tryz.func20 k20 hs hn h

def q21r0 := [gV 41 1, gO 4 (.asg true (.t 41))]
def q21r1 := [gV 10 5, gO 11 (.bin .add (.t 10) (xI 1)), gO 5 (.asg true (.t 11))]
def q21r2 := [gV 39 1, gO 40 (.bin .add (.t 39) (xI 1)), gO 1 (.asg true (.t 40))]
def q21r3 := [gV 34 0, gV 35 5, gV 36 1, gO 37 (.idx 4 (.t 34) (.t 35)), gO 38 (.fld (.t 37) 3), gS (.sto 1 (.t 38) (.t 36))]
def q21r4 := [gV 32 1, gO 33 (.bin .add (.t 32) (xI 1)), gO 1 (.asg true (.t 33))]
def q21r5 := [gV 27 0, gV 28 5, gV 29 1, gO 30 (.idx 4 (.t 27) (.t 28)), gO 31 (.fld (.t 30) 2), gS (.sto 1 (.t 31) (.t 29))]
def q21r6 := [gV 25 1, gO 26 (.bin .add (.t 25) (xI 1)), gO 1 (.asg true (.t 26))]
def q21r7 := [gV 20 0, gV 21 5, gV 22 1, gO 23 (.idx 4 (.t 20) (.t 21)), gO 24 (.fld (.t 23) 1), gS (.sto 1 (.t 24) (.t 22))]
def q21r8 := [gV 18 1, gO 19 (.bin .add (.t 18) (xI 1)), gO 1 (.asg true (.t 19))]
def q21r9 := [gV 12 0, gV 13 5, gV 14 1, gO 15 (.call F_laws_markText [.t 14]), gO 16 (.idx 4 (.t 12) (.t 13)), gO 17 (.fld (.t 16) 0), gS (.sto 1 (.t 17) (.t 15))]
def q21r10 := [gV 6 5, gV 7 0, gO 8 (.len (.t 7)), gO 9 (.bin .lss (.t 6) (.t 8))]
def q21b0 : CC := .seq (.seq (.reg none q21r10 (nL [0, 1, 5, 9])) (.cnd (.t 9) (.skip) (.exit 0))) (.seq (.blk 1 (.seq (.reg none q21r9 (nL [0, 1, 5])) (.seq (.reg none q21r8 (nL [0, 1, 5])) (.seq (.reg none q21r7 (nL [0, 1, 5])) (.seq (.reg none q21r6 (nL [0, 1, 5])) (.seq (.reg none q21r5 (nL [0, 1, 5])) (.seq (.reg none q21r4 (nL [0, 1, 5])) (.seq (.reg none q21r3 (nL [0, 1, 5])) (.reg none q21r2 (nL [0, 1, 5])))))))))) (.reg none q21r1 (nL [0, 1, 5])))
def q21r11 := [gO 5 (.asg false (xI 0))]
def q21r12 := [gO 4 (.asg false (xI 0))]
def q21 : CC := .seq (.reg none q21r12 (nL [0, 1])) (.seq (.seq (.reg none q21r11 (nL [0, 1, 5])) (.blk 0 (.loop q21b0 (nL [0, 1, 5])))) (.seq (.reg none q21r0 (nL [4])) (.ret)))
abbrev L_laws_markListedS_0 (P : Program) (Q : Env → Prop) (E : Env) : Prop := RunQ P Q (.code q21b0 :: .lp q21b0 (nL [0, 1, 5]) :: [.blk 0, .code (.seq (.reg none q21r0 (nL [4])) (.ret))]) E
theorem k21 : chkF PP Tryz.f21 q21 [.tmp 4] = true := by kernel_rfl
theorem SQ_laws_markListedS : SQOf PP Tryz.f21 42 [.tmp 4] q21 F_laws_markListedS := fun ni no hs hn hni hno h => callsH_of_run ni no Tryz.func21 k21 hs hn hni hno (fun u => h u _ (fun _ h => h))

def q22r0 := [gV 27 1, gO 4 (.asg true (.t 27))]
def q22r1 := [gV 10 5, gO 11 (.bin .add (.t 10) (xI 1)), gO 5 (.asg true (.t 11))]
def q22r2 := [gV 25 1, gO 26 (.bin .add (.t 25) (xI 1)), gO 1 (.asg true (.t 26))]
def q22r3 := [gV 20 0, gV 21 5, gV 22 1, gO 23 (.idx 2 (.t 20) (.t 21)), gO 24 (.fld (.t 23) 1), gS (.sto 1 (.t 24) (.t 22))]
def q22r4 := [gV 18 1, gO 19 (.bin .add (.t 18) (xI 1)), gO 1 (.asg true (.t 19))]
def q22r5 := [gV 12 0, gV 13 5, gV 14 1, gO 15 (.call F_laws_markText [.t 14]), gO 16 (.idx 2 (.t 12) (.t 13)), gO 17 (.fld (.t 16) 0), gS (.sto 1 (.t 17) (.t 15))]
def q22r6 := [gV 6 5, gV 7 0, gO 8 (.len (.t 7)), gO 9 (.bin .lss (.t 6) (.t 8))]
def q22b0 : CC := .seq (.seq (.reg none q22r6 (nL [0, 1, 5, 9])) (.cnd (.t 9) (.skip) (.exit 0))) (.seq (.blk 1 (.seq (.reg none q22r5 (nL [0, 1, 5])) (.seq (.reg none q22r4 (nL [0, 1, 5])) (.seq (.reg none q22r3 (nL [0, 1, 5])) (.reg none q22r2 (nL [0, 1, 5])))))) (.reg none q22r1 (nL [0, 1, 5])))
def q22r7 := [gO 5 (.asg false (xI 0))]
def q22r8 := [gO 4 (.asg false (xI 0))]
def q22 : CC := .seq (.reg none q22r8 (nL [0, 1])) (.seq (.seq (.reg none q22r7 (nL [0, 1, 5])) (.blk 0 (.loop q22b0 (nL [0, 1, 5])))) (.seq (.reg none q22r0 (nL [4])) (.ret)))
abbrev L_laws_markMeaningS_0 (P : Program) (Q : Env → Prop) (E : Env) : Prop := RunQ P Q (.code q22b0 :: .lp q22b0 (nL [0, 1, 5]) :: [.blk 0, .code (.seq (.reg none q22r0 (nL [4])) (.ret))]) E
theorem k22 : chkF PP Tryz.f22 q22 [.tmp 4] = true := by kernel_rfl
theorem SQ_laws_markMeaningS : SQOf PP Tryz.f22 28 [.tmp 4] q22 F_laws_markMeaningS := fun ni no hs hn hni hno h => callsH_of_run ni no Tryz.func22 k22 hs hn hni hno (fun u => h u _ (fun _ h => h))

def q23r0 := [gV 33 1, gO 4 (.asg true (.t 33))]
def q23r1 := [gO 29 (.fld (.t 2) 11), gO 30 (.ld (.t 29)), gV 31 1, gO 32 (.call F_laws_markEntryS [.t 30, .t 31]), gO 1 (.asg true (.t 32))]
def q23r2 := [gO 25 (.fld (.t 2) 10), gO 26 (.ld (.t 25)), gV 27 1, gO 28 (.call F_laws_markCorrectionS [.t 26, .t 27]), gO 1 (.asg true (.t 28))]
def q23r3 := [gO 21 (.fld (.t 2) 9), gO 22 (.ld (.t 21)), gV 23 1, gO 24 (.call F_laws_markUsedS [.t 22, .t 23]), gO 1 (.asg true (.t 24))]
def q23r4 := [gO 17 (.fld (.t 2) 8), gO 18 (.ld (.t 17)), gV 19 1, gO 20 (.call F_laws_markIssueS [.t 18, .t 19]), gO 1 (.asg true (.t 20))]
def q23r5 := [gO 13 (.fld (.t 2) 2), gO 14 (.lda 6 (.t 13)), gV 15 1, gO 16 (.call F_laws_markDraft [.t 14, .t 15]), gO 1 (.asg true (.t 16))]
def q23r6 := [gO 9 (.fld (.t 2) 1), gO 10 (.ld (.t 9)), gV 11 1, gO 12 (.call F_laws_markMeaningS [.t 10, .t 11]), gO 1 (.asg true (.t 12))]
def q23r7 := [gO 5 (.fld (.t 2) 0), gO 6 (.ld (.t 5)), gV 7 1, gO 8 (.call F_laws_markListedS [.t 6, .t 7]), gO 1 (.asg true (.t 8))]
def q23r8 := [gO 2 (.box (.t 0)), gO 4 (.asg false (xI 0))]
def q23 : CC := .seq (.reg none q23r8 (nL [1, 2])) (.seq (.reg none q23r7 (nL [1, 2])) (.seq (.reg none q23r6 (nL [1, 2])) (.seq (.reg none q23r5 (nL [1, 2])) (.seq (.reg none q23r4 (nL [1, 2])) (.seq (.reg none q23r3 (nL [1, 2])) (.seq (.reg none q23r2 (nL [1, 2])) (.seq (.reg none q23r1 (nL [1])) (.seq (.reg none q23r0 (nL [4])) (.ret)))))))))
theorem k23 : chkF PP Tryz.f23 q23 [.tmp 4] = true := by kernel_rfl
theorem SQ_laws_markHouse : SQOf PP Tryz.f23 34 [.tmp 4] q23 F_laws_markHouse := fun ni no hs hn hni hno h => callsH_of_run ni no Tryz.func23 k23 hs hn hni hno (fun u => h u _ (fun _ h => h))

def q24r0 := [gV 47 1, gO 4 (.asg true (.t 47))]
def q24r1 := [gO 4 (.asg false (.c (.int .i64 (-1))))]
def q24r2 := [gV 45 1, gO 46 (.bin .lss (.t 45) (xI 0))]
def q24r3 := [gO 41 (.fld (.t 2) 11), gO 42 (.ld (.t 41)), gV 43 1, gO 44 (.call F_laws_heldEntryS [.t 42, .t 43]), gO 1 (.asg true (.t 44))]
def q24r4 := [gO 4 (.asg false (.c (.int .i64 (-1))))]
def q24r5 := [gV 39 1, gO 40 (.bin .lss (.t 39) (xI 0))]
def q24r6 := [gO 35 (.fld (.t 2) 10), gO 36 (.ld (.t 35)), gV 37 1, gO 38 (.call F_laws_heldCorrectionS [.t 36, .t 37]), gO 1 (.asg true (.t 38))]
def q24r7 := [gO 4 (.asg false (.c (.int .i64 (-1))))]
def q24r8 := [gV 33 1, gO 34 (.bin .lss (.t 33) (xI 0))]
def q24r9 := [gO 29 (.fld (.t 2) 9), gO 30 (.ld (.t 29)), gV 31 1, gO 32 (.call F_laws_heldUsedS [.t 30, .t 31]), gO 1 (.asg true (.t 32))]
def q24r10 := [gO 4 (.asg false (.c (.int .i64 (-1))))]
def q24r11 := [gV 27 1, gO 28 (.bin .lss (.t 27) (xI 0))]
def q24r12 := [gO 23 (.fld (.t 2) 8), gO 24 (.ld (.t 23)), gV 25 1, gO 26 (.call F_laws_heldIssueS [.t 24, .t 25]), gO 1 (.asg true (.t 26))]
def q24r13 := [gO 4 (.asg false (.c (.int .i64 (-1))))]
def q24r14 := [gV 21 1, gO 22 (.bin .lss (.t 21) (xI 0))]
def q24r15 := [gO 17 (.fld (.t 2) 2), gO 18 (.lda 6 (.t 17)), gV 19 1, gO 20 (.call F_laws_heldDraft [.t 18, .t 19]), gO 1 (.asg true (.t 20))]
def q24r16 := [gO 4 (.asg false (.c (.int .i64 (-1))))]
def q24r17 := [gV 15 1, gO 16 (.bin .lss (.t 15) (xI 0))]
def q24r18 := [gO 11 (.fld (.t 2) 1), gO 12 (.ld (.t 11)), gV 13 1, gO 14 (.call F_laws_heldMeaningS [.t 12, .t 13]), gO 1 (.asg true (.t 14))]
def q24r19 := [gO 4 (.asg false (.c (.int .i64 (-1))))]
def q24r20 := [gV 9 1, gO 10 (.bin .lss (.t 9) (xI 0))]
def q24r21 := [gO 5 (.fld (.t 2) 0), gO 6 (.ld (.t 5)), gV 7 1, gO 8 (.call F_laws_heldListedS [.t 6, .t 7]), gO 1 (.asg true (.t 8))]
def q24r22 := [gO 2 (.box (.t 0)), gO 4 (.asg false (xI 0))]
def q24 : CC := .seq (.reg none q24r22 [1, 2]) (.seq (.reg none q24r21 [1, 2]) (.seq (.seq (.reg none q24r20 [1, 2, 10]) (.cnd (.t 10) (.seq (.reg none q24r19 [4]) (.ret)) (.skip))) (.seq (.reg none q24r18 [1, 2]) (.seq (.seq (.reg none q24r17 [1, 2, 16]) (.cnd (.t 16) (.seq (.reg none q24r16 [4]) (.ret)) (.skip))) (.seq (.reg none q24r15 [1, 2]) (.seq (.seq (.reg none q24r14 [1, 2, 22]) (.cnd (.t 22) (.seq (.reg none q24r13 [4]) (.ret)) (.skip))) (.seq (.reg none q24r12 [1, 2]) (.seq (.seq (.reg none q24r11 [1, 2, 28]) (.cnd (.t 28) (.seq (.reg none q24r10 [4]) (.ret)) (.skip))) (.seq (.reg none q24r9 [1, 2]) (.seq (.seq (.reg none q24r8 [1, 2, 34]) (.cnd (.t 34) (.seq (.reg none q24r7 [4]) (.ret)) (.skip))) (.seq (.reg none q24r6 [1, 2]) (.seq (.seq (.reg none q24r5 [1, 2, 40]) (.cnd (.t 40) (.seq (.reg none q24r4 [4]) (.ret)) (.skip))) (.seq (.reg none q24r3 [1]) (.seq (.seq (.reg none q24r2 [1, 46]) (.cnd (.t 46) (.seq (.reg none q24r1 [4]) (.ret)) (.skip))) (.seq (.reg none q24r0 [4]) (.ret))))))))))))))))
theorem k24 : chkF PP Tryz.f24 q24 [.tmp 4] = true := by kernel_rfl
theorem S_laws_heldHouse : SOf PP Tryz.f24 48 [.tmp 4] q24 F_laws_heldHouse := fun hs hn h => callsOK Tryz.func24 k24 hs hn h

def q25r0 := [gV 47 1, gO 4 (.asg true (.t 47))]
def q25r1 := [gO 4 (.asg false (.c (.int .i64 (-1))))]
def q25r2 := [gV 45 1, gO 46 (.bin .lss (.t 45) (xI 0))]
def q25r3 := [gO 41 (.fld (.t 2) 11), gO 42 (.ld (.t 41)), gV 43 1, gO 44 (.call F_laws_szEntryS [.t 42, .t 43]), gO 1 (.asg true (.t 44))]
def q25r4 := [gO 4 (.asg false (.c (.int .i64 (-1))))]
def q25r5 := [gV 39 1, gO 40 (.bin .lss (.t 39) (xI 0))]
def q25r6 := [gO 35 (.fld (.t 2) 10), gO 36 (.ld (.t 35)), gV 37 1, gO 38 (.call F_laws_szCorrectionS [.t 36, .t 37]), gO 1 (.asg true (.t 38))]
def q25r7 := [gO 4 (.asg false (.c (.int .i64 (-1))))]
def q25r8 := [gV 33 1, gO 34 (.bin .lss (.t 33) (xI 0))]
def q25r9 := [gO 29 (.fld (.t 2) 9), gO 30 (.ld (.t 29)), gV 31 1, gO 32 (.call F_laws_szUsedS [.t 30, .t 31]), gO 1 (.asg true (.t 32))]
def q25r10 := [gO 4 (.asg false (.c (.int .i64 (-1))))]
def q25r11 := [gV 27 1, gO 28 (.bin .lss (.t 27) (xI 0))]
def q25r12 := [gO 23 (.fld (.t 2) 8), gO 24 (.ld (.t 23)), gV 25 1, gO 26 (.call F_laws_szIssueS [.t 24, .t 25]), gO 1 (.asg true (.t 26))]
def q25r13 := [gO 4 (.asg false (.c (.int .i64 (-1))))]
def q25r14 := [gV 21 1, gO 22 (.bin .lss (.t 21) (xI 0))]
def q25r15 := [gO 17 (.fld (.t 2) 2), gO 18 (.lda 6 (.t 17)), gV 19 1, gO 20 (.call F_laws_szDraft [.t 18, .t 19]), gO 1 (.asg true (.t 20))]
def q25r16 := [gO 4 (.asg false (.c (.int .i64 (-1))))]
def q25r17 := [gV 15 1, gO 16 (.bin .lss (.t 15) (xI 0))]
def q25r18 := [gO 11 (.fld (.t 2) 1), gO 12 (.ld (.t 11)), gV 13 1, gO 14 (.call F_laws_szMeaningS [.t 12, .t 13]), gO 1 (.asg true (.t 14))]
def q25r19 := [gO 4 (.asg false (.c (.int .i64 (-1))))]
def q25r20 := [gV 9 1, gO 10 (.bin .lss (.t 9) (xI 0))]
def q25r21 := [gO 5 (.fld (.t 2) 0), gO 6 (.ld (.t 5)), gV 7 1, gO 8 (.call F_laws_szListedS [.t 6, .t 7]), gO 1 (.asg true (.t 8))]
def q25r22 := [gO 2 (.box (.t 0)), gO 4 (.asg false (xI 0))]
def q25 : CC := .seq (.reg none q25r22 [1, 2]) (.seq (.reg none q25r21 [1, 2]) (.seq (.seq (.reg none q25r20 [1, 2, 10]) (.cnd (.t 10) (.seq (.reg none q25r19 [4]) (.ret)) (.skip))) (.seq (.reg none q25r18 [1, 2]) (.seq (.seq (.reg none q25r17 [1, 2, 16]) (.cnd (.t 16) (.seq (.reg none q25r16 [4]) (.ret)) (.skip))) (.seq (.reg none q25r15 [1, 2]) (.seq (.seq (.reg none q25r14 [1, 2, 22]) (.cnd (.t 22) (.seq (.reg none q25r13 [4]) (.ret)) (.skip))) (.seq (.reg none q25r12 [1, 2]) (.seq (.seq (.reg none q25r11 [1, 2, 28]) (.cnd (.t 28) (.seq (.reg none q25r10 [4]) (.ret)) (.skip))) (.seq (.reg none q25r9 [1, 2]) (.seq (.seq (.reg none q25r8 [1, 2, 34]) (.cnd (.t 34) (.seq (.reg none q25r7 [4]) (.ret)) (.skip))) (.seq (.reg none q25r6 [1, 2]) (.seq (.seq (.reg none q25r5 [1, 2, 40]) (.cnd (.t 40) (.seq (.reg none q25r4 [4]) (.ret)) (.skip))) (.seq (.reg none q25r3 [1]) (.seq (.seq (.reg none q25r2 [1, 46]) (.cnd (.t 46) (.seq (.reg none q25r1 [4]) (.ret)) (.skip))) (.seq (.reg none q25r0 [4]) (.ret))))))))))))))))
theorem k25 : chkF PP Tryz.f25 q25 [.tmp 4] = true := by kernel_rfl
theorem S_laws_szHouse : SOf PP Tryz.f25 48 [.tmp 4] q25 F_laws_szHouse := fun hs hn h => callsOK Tryz.func25 k25 hs hn h

def q26r0 := [gV 11 1, gO 4 (.asg true (.t 11))]
def q26r1 := [gO 4 (.asg false (.c (.int .i64 (-1))))]
def q26r2 := [gV 9 1, gO 10 (.bin .lss (.t 9) (xI 0))]
def q26r3 := [gO 5 (.fld (.t 2) 1), gO 6 (.ld (.t 5)), gV 7 1, gO 8 (.call F_laws_szStepS [.t 6, .t 7]), gO 1 (.asg true (.t 8))]
def q26r4 := [gO 2 (.box (.t 0)), gO 4 (.asg false (xI 0))]
def q26 : CC := .seq (.reg none q26r4 [1, 2]) (.seq (.reg none q26r3 [1]) (.seq (.seq (.reg none q26r2 [1, 10]) (.cnd (.t 10) (.seq (.reg none q26r1 [4]) (.ret)) (.skip))) (.seq (.reg none q26r0 [4]) (.ret))))
theorem k26 : chkF PP Tryz.f26 q26 [.tmp 4] = true := by kernel_rfl
theorem S_laws_szClue : SOf PP Tryz.f26 12 [.tmp 4] q26 F_laws_szClue := fun hs hn h => callsOK Tryz.func26 k26 hs hn h

def q27r0 := [gO 26 (.lda 13 (.t 8)), gS (.sto 13 (.t 6) (.t 26)), gO 7 (.asg false (.c (.bool true)))]
def q27r1 := [gO 24 (.lda 6 (.t 9)), gO 25 (.fld (.t 8) 2), gS (.sto 6 (.t 25) (.t 24))]
def q27r2 := [gO 23 (.lda 13 (.t 8)), gS (.sto 13 (.t 6) (.t 23)), gO 7 (.asg false (.c (.bool false)))]
def q27r3 := [gV 21 10, gO 22 (.not (.t 21))]
def q27r4 := [gO 14 (.fld (.t 3) 2), gO 15 (.lda 6 (.t 14)), gV 16 1, gO 17 (.lda 2 (.t 5)), gO 18 (.call F_spec_SetClue [.t 15, .t 16, .t 17]), gV 13 18, gO 19 (.ext (.t 13) 0), gO 20 (.ext (.t 13) 1), gO 9 (.alc [.int .i64 0, .int .i64 0, .str [], .str [], .sl 2 [], .int .i64 0]), gS (.sto 6 (.t 9) (.t 19)), gO 10 (.asg true (.t 20))]
def q27r5 := [gO 11 (.lda 13 (.t 3)), gO 12 (.call F_spec_l33Copy [.t 11]), gO 8 (.alc [.sl 4 [], .sl 2 [], .int .i64 0, .int .i64 0, .str [], .str [], .sl 2 [], .int .i64 0, .sl 10 [], .sl 2 [], .sl 5 [], .sl 4 [], .int .i64 0]), gS (.sto 13 (.t 8) (.t 12))]
def q27r6 := [gO 3 (.box (.t 0)), gO 5 (.box (.t 2)), gO 6 (.alc [.sl 4 [], .sl 2 [], .int .i64 0, .int .i64 0, .str [], .str [], .sl 2 [], .int .i64 0, .sl 10 [], .sl 2 [], .sl 5 [], .sl 4 [], .int .i64 0]), gO 7 (.asg false (.c (.bool false)))]
def q27 : CC := .seq (.reg none q27r6 [1, 3, 5, 6]) (.seq (.reg none q27r5 [1, 3, 5, 6, 8]) (.seq (.reg none q27r4 [6, 8, 9, 10]) (.seq (.seq (.reg none q27r3 [6, 8, 9, 22]) (.cnd (.t 22) (.seq (.reg none q27r2 [6, 7]) (.ret)) (.skip))) (.seq (.reg none q27r1 [6, 8]) (.seq (.reg none q27r0 [6, 7]) (.ret))))))
theorem k27 : chkF PP Tryz.f27 q27 [.cella 6, .tmp 7] = true := by kernel_rfl
theorem S_spec_StepClue : SOf PP Tryz.f27 27 [.cella 6, .tmp 7] q27 F_spec_StepClue := fun hs hn h => callsOK Tryz.func27 k27 hs hn h

def q28r0 := [gO 35 (.lda 13 (.t 3)), gS (.sto 13 (.t 2) (.t 35))]
def q28r1 := [gO 32 (.fld (.t 1) 12), gO 33 (.ld (.t 32)), gO 34 (.fld (.t 3) 12), gS (.sto 1 (.t 34) (.t 33))]
def q28r2 := [gO 28 (.fld (.t 1) 11), gO 29 (.ld (.t 28)), gO 30 (.call F_laws_toEntryS [.t 29]), gO 31 (.fld (.t 3) 11), gS (.sto 1 (.t 31) (.t 30))]
def q28r3 := [gO 24 (.fld (.t 1) 10), gO 25 (.ld (.t 24)), gO 26 (.call F_laws_toCorrectionS [.t 25]), gO 27 (.fld (.t 3) 10), gS (.sto 1 (.t 27) (.t 26))]
def q28r4 := [gO 20 (.fld (.t 1) 9), gO 21 (.ld (.t 20)), gO 22 (.call F_laws_toUsedS [.t 21]), gO 23 (.fld (.t 3) 9), gS (.sto 1 (.t 23) (.t 22))]
def q28r5 := [gO 16 (.fld (.t 1) 8), gO 17 (.ld (.t 16)), gO 18 (.call F_laws_toIssueS [.t 17]), gO 19 (.fld (.t 3) 8), gS (.sto 1 (.t 19) (.t 18))]
def q28r6 := [gO 12 (.fld (.t 1) 2), gO 13 (.lda 6 (.t 12)), gO 14 (.call F_laws_toDraft [.t 13]), gO 15 (.fld (.t 3) 2), gS (.sto 6 (.t 15) (.t 14))]
def q28r7 := [gO 8 (.fld (.t 1) 1), gO 9 (.ld (.t 8)), gO 10 (.call F_laws_toMeaningS [.t 9]), gO 11 (.fld (.t 3) 1), gS (.sto 1 (.t 11) (.t 10))]
def q28r8 := [gO 4 (.fld (.t 1) 0), gO 5 (.ld (.t 4)), gO 6 (.call F_laws_toListedS [.t 5]), gO 7 (.fld (.t 3) 0), gS (.sto 1 (.t 7) (.t 6))]
def q28r9 := [gO 3 (.alc [.sl 4 [], .sl 2 [], .int .i64 0, .int .i64 0, .str [], .str [], .sl 2 [], .int .i64 0, .sl 10 [], .sl 2 [], .sl 5 [], .sl 4 [], .int .i64 0])]
def q28r10 := [gO 1 (.box (.t 0)), gO 2 (.alc [.sl 4 [], .sl 2 [], .int .i64 0, .int .i64 0, .str [], .str [], .sl 2 [], .int .i64 0, .sl 10 [], .sl 2 [], .sl 5 [], .sl 4 [], .int .i64 0])]
def q28 : CC := .seq (.reg none q28r10 (nL [1, 2])) (.seq (.reg none q28r9 (nL [1, 2, 3])) (.seq (.reg none q28r8 (nL [1, 2, 3])) (.seq (.reg none q28r7 (nL [1, 2, 3])) (.seq (.reg none q28r6 (nL [1, 2, 3])) (.seq (.reg none q28r5 (nL [1, 2, 3])) (.seq (.reg none q28r4 (nL [1, 2, 3])) (.seq (.reg none q28r3 (nL [1, 2, 3])) (.seq (.reg none q28r2 (nL [1, 2, 3])) (.seq (.reg none q28r1 (nL [2, 3])) (.seq (.reg none q28r0 (nL [2])) (.ret)))))))))))
theorem k28 : chkF PP Tryz.f28 q28 [.cella 2] = true := by kernel_rfl
theorem SQ_laws_toHouse : SQOf PP Tryz.f28 36 [.cella 2] q28 F_laws_toHouse := fun ni no hs hn hni hno h => callsH_of_run ni no Tryz.func28 k28 hs hn hni hno (fun u => h u _ (fun _ h => h))

def q29r0 := [gO 11 (.lda 2 (.t 3)), gS (.sto 2 (.t 2) (.t 11))]
def q29r1 := [gO 7 (.fld (.t 1) 1), gO 8 (.ld (.t 7)), gO 9 (.call F_laws_toStepS [.t 8]), gO 10 (.fld (.t 3) 1), gS (.sto 1 (.t 10) (.t 9))]
def q29r2 := [gO 4 (.fld (.t 1) 0), gO 5 (.ld (.t 4)), gO 6 (.fld (.t 3) 0), gS (.sto 1 (.t 6) (.t 5))]
def q29r3 := [gO 3 (.alc [.int .i64 0, .sl 4 []])]
def q29r4 := [gO 1 (.box (.t 0)), gO 2 (.alc [.int .i64 0, .sl 4 []])]
def q29 : CC := .seq (.reg none q29r4 (nL [1, 2])) (.seq (.reg none q29r3 (nL [1, 2, 3])) (.seq (.reg none q29r2 (nL [1, 2, 3])) (.seq (.reg none q29r1 (nL [2, 3])) (.seq (.reg none q29r0 (nL [2])) (.ret)))))
theorem k29 : chkF PP Tryz.f29 q29 [.cella 2] = true := by kernel_rfl
theorem SQ_laws_toClue : SQOf PP Tryz.f29 12 [.cella 2] q29 F_laws_toClue := fun ni no hs hn hni hno h => callsH_of_run ni no Tryz.func29 k29 hs hn hni hno (fun u => h u _ (fun _ h => h))

def q30r0 := [gO 23 (.lda 13 (.t 8)), gV 24 10, gS (.sto 13 (.t 6) (.t 23)), gO 7 (.asg true (.t 24))]
def q30r1 := [gO 21 (.lda 6 (.t 9)), gO 22 (.fld (.t 8) 2), gS (.sto 6 (.t 22) (.t 21))]
def q30r2 := [gO 14 (.fld (.t 3) 2), gO 15 (.lda 6 (.t 14)), gV 16 1, gO 17 (.lda 2 (.t 5)), gO 18 (.call F_impl_SetClue [.t 15, .t 16, .t 17]), gV 13 18, gO 19 (.ext (.t 13) 0), gO 20 (.ext (.t 13) 1), gO 9 (.alc [.int .i64 0, .int .i64 0, .str [], .str [], .sl 2 [], .int .i64 0]), gS (.sto 6 (.t 9) (.t 19)), gO 10 (.asg true (.t 20))]
def q30r3 := [gO 11 (.lda 13 (.t 3)), gO 12 (.call F_impl_copyHouse [.t 11]), gO 8 (.alc [.sl 4 [], .sl 2 [], .int .i64 0, .int .i64 0, .str [], .str [], .sl 2 [], .int .i64 0, .sl 10 [], .sl 2 [], .sl 5 [], .sl 4 [], .int .i64 0]), gS (.sto 13 (.t 8) (.t 12))]
def q30r4 := [gO 3 (.box (.t 0)), gO 5 (.box (.t 2)), gO 6 (.alc [.sl 4 [], .sl 2 [], .int .i64 0, .int .i64 0, .str [], .str [], .sl 2 [], .int .i64 0, .sl 10 [], .sl 2 [], .sl 5 [], .sl 4 [], .int .i64 0]), gO 7 (.asg false (.c (.bool false)))]
def q30 : CC := .seq (.reg none q30r4 (nL [1, 3, 5, 6])) (.seq (.reg none q30r3 (nL [1, 3, 5, 6, 8])) (.seq (.reg none q30r2 (nL [6, 8, 9, 10])) (.seq (.reg none q30r1 (nL [6, 8, 10])) (.seq (.reg none q30r0 (nL [6, 7])) (.ret)))))
theorem k30 : chkF PP Tryz.f30 q30 [.cella 6, .tmp 7] = true := by kernel_rfl
theorem SQ_impl_StepClue : SQOf PP Tryz.f30 25 [.cella 6, .tmp 7] q30 F_impl_StepClue := fun ni no hs hn hni hno h => callsH_of_run ni no Tryz.func30 k30 hs hn hni hno (fun u => h u _ (fun _ h => h))

def q31r0 := [gO 4 (.asg false (.c (.bool true)))]
def q31r1 := [gO 4 (.asg false (.c (.bool false)))]
def q31r2 := [gO 10 (.fld (.t 2) 1), gO 11 (.ld (.t 10)), gO 12 (.fld (.t 3) 1), gO 13 (.ld (.t 12)), gO 14 (.call F_laws_eqStepS [.t 11, .t 13]), gO 15 (.not (.t 14))]
def q31r3 := [gO 4 (.asg false (.c (.bool false)))]
def q31r4 := [gO 5 (.fld (.t 2) 0), gO 6 (.ld (.t 5)), gO 7 (.fld (.t 3) 0), gO 8 (.ld (.t 7)), gO 9 (.bin .neq (.t 6) (.t 8))]
def q31r5 := [gO 2 (.box (.t 0)), gO 3 (.box (.t 1)), gO 4 (.asg false (.c (.bool false)))]
def q31 : CC := .seq (.reg none q31r5 [2, 3]) (.seq (.seq (.reg none q31r4 [2, 3, 9]) (.cnd (.t 9) (.seq (.reg none q31r3 [4]) (.ret)) (.skip))) (.seq (.seq (.reg none q31r2 [15]) (.cnd (.t 15) (.seq (.reg none q31r1 [4]) (.ret)) (.skip))) (.seq (.reg none q31r0 [4]) (.ret))))
theorem k31 : chkF PP Tryz.f31 q31 [.tmp 4] = true := by kernel_rfl
theorem S_laws_eqClue : SOf PP Tryz.f31 16 [.tmp 4] q31 F_laws_eqClue := fun hs hn h => callsOK Tryz.func31 k31 hs hn h

def q32r0 := [gV 9 1, gO 4 (.asg true (.t 9))]
def q32r1 := [gO 5 (.fld (.t 2) 1), gO 6 (.ld (.t 5)), gV 7 1, gO 8 (.call F_laws_markStepS [.t 6, .t 7]), gO 1 (.asg true (.t 8))]
def q32r2 := [gO 2 (.box (.t 0)), gO 4 (.asg false (xI 0))]
def q32 : CC := .seq (.reg none q32r2 (nL [1, 2])) (.seq (.reg none q32r1 (nL [1])) (.seq (.reg none q32r0 (nL [4])) (.ret)))
theorem k32 : chkF PP Tryz.f32 q32 [.tmp 4] = true := by kernel_rfl
theorem SQ_laws_markClue : SQOf PP Tryz.f32 10 [.tmp 4] q32 F_laws_markClue := fun ni no hs hn hni hno h => callsH_of_run ni no Tryz.func32 k32 hs hn hni hno (fun u => h u _ (fun _ h => h))

def q47r0 := [gV 12 1, gO 4 (.asg true (.t 12))]
def q47r1 := [gO 4 (.asg false (.c (.int .i64 (-1))))]
def q47r2 := [gV 10 1, gO 11 (.bin .lss (.t 10) (xI 0))]
def q47r3 := [gV 5 1, gO 6 (.fld (.t 2) 0), gO 7 (.ld (.t 6)), gO 8 (.slen (.t 7)), gO 9 (.bin .sub (.t 5) (.t 8)), gO 1 (.asg true (.t 9))]
def q47r4 := [gO 2 (.box (.t 0)), gO 4 (.asg false (xI 0))]
def q47 : CC := .seq (.reg none q47r4 [1, 2]) (.seq (.reg none q47r3 [1]) (.seq (.seq (.reg none q47r2 [1, 11]) (.cnd (.t 11) (.seq (.reg none q47r1 [4]) (.ret)) (.skip))) (.seq (.reg none q47r0 [4]) (.ret))))
theorem k47 : chkF PP Tryz.f47 q47 [.tmp 4] = true := by kernel_rfl
theorem S_laws_szListed : SOf PP Tryz.f47 13 [.tmp 4] q47 F_laws_szListed := fun hs hn h => callsOK Tryz.func47 k47 hs hn h

def q48r0 := [gV 12 1, gO 4 (.asg true (.t 12))]
def q48r1 := [gO 4 (.asg false (.c (.int .i64 (-1))))]
def q48r2 := [gV 10 1, gO 11 (.bin .lss (.t 10) (xI 0))]
def q48r3 := [gV 5 1, gO 6 (.fld (.t 2) 0), gO 7 (.ld (.t 6)), gO 8 (.slen (.t 7)), gO 9 (.bin .sub (.t 5) (.t 8)), gO 1 (.asg true (.t 9))]
def q48r4 := [gO 2 (.box (.t 0)), gO 4 (.asg false (xI 0))]
def q48 : CC := .seq (.reg none q48r4 [1, 2]) (.seq (.reg none q48r3 [1]) (.seq (.seq (.reg none q48r2 [1, 11]) (.cnd (.t 11) (.seq (.reg none q48r1 [4]) (.ret)) (.skip))) (.seq (.reg none q48r0 [4]) (.ret))))
theorem k48 : chkF PP Tryz.f48 q48 [.tmp 4] = true := by kernel_rfl
theorem S_laws_szMeaning : SOf PP Tryz.f48 13 [.tmp 4] q48 F_laws_szMeaning := fun hs hn h => callsOK Tryz.func48 k48 hs hn h

def q49r0 := [gO 48 (.lda 13 (.t 3)), gS (.sto 13 (.t 2) (.t 48))]
def q49r1 := [gV 35 4, gO 36 (.bin .add (.t 35) (xI 1)), gO 4 (.asg true (.t 36))]
def q49r2 := [gO 37 (.fld (.t 3) 8), gO 38 (.ld (.t 37)), gO 39 (.fld (.t 1) 8), gO 40 (.ld (.t 39)), gV 41 4, gO 42 (.idx 10 (.t 40) (.t 41)), gO 43 (.lda 10 (.t 42)), gO 44 (.call F_spec_l30Copy [.t 43]), gO 45 (.bsl 10 [.t 44]), gO 46 (.app T_impl_Issue 10 128 (.t 38) (.t 45)), gO 47 (.fld (.t 3) 8), gS (.sto 1 (.t 47) (.t 46))]
def q49r3 := [gV 30 4, gO 31 (.fld (.t 1) 8), gO 32 (.ld (.t 31)), gO 33 (.len (.t 32)), gO 34 (.bin .lss (.t 30) (.t 33))]
def q49b0 : CC := .seq (.seq (.reg none q49r3 (nL [1, 2, 3, 4, 34])) (.cnd (.t 34) (.skip) (.exit 0))) (.seq (.blk 1 (.mix [0, 1, 2, 3, 4, 5, 6] [[], [0], [], [2], [], [2, 3, 4], [2, 3, 4, 5], [2, 3, 4, 5, 6], [2, 3, 4, 5, 6, 7], [0, 1, 2, 3, 4, 5, 6, 7, 8], [0, 1, 2, 3, 4, 5, 6, 7, 8, 9], [0, 1, 2, 3, 4, 5, 6, 7, 8, 9, 10]] q49r2 (nL [1, 2, 3, 4]))) (.reg none q49r1 (nL [1, 2, 3, 4])))
def q49r4 := [gO 4 (.asg false (xI 0))]
def q49r5 := [gO 5 (.bslo T_impl_Listed 4 40 []), gO 6 (.fld (.t 1) 0), gO 7 (.ld (.t 6)), gO 8 (.app T_impl_Listed 4 40 (.t 5) (.t 7)), gO 9 (.bslo T_impl_Meaning 2 24 []), gO 10 (.fld (.t 1) 1), gO 11 (.ld (.t 10)), gO 12 (.app T_impl_Meaning 2 24 (.t 9) (.t 11)), gO 13 (.fld (.t 1) 2), gO 14 (.lda 6 (.t 13)), gO 15 (.call F_spec_l27Copy [.t 14]), gO 16 (.bslo T_impl_Used 2 24 []), gO 17 (.fld (.t 1) 9), gO 18 (.ld (.t 17)), gO 19 (.app T_impl_Used 2 24 (.t 16) (.t 18)), gO 20 (.fld (.t 1) 10), gO 21 (.ld (.t 20)), gO 22 (.call F_spec_l31Copy [.t 21]), gO 23 (.bslo T_impl_Entry 4 40 []), gO 24 (.fld (.t 1) 11), gO 25 (.ld (.t 24)), gO 26 (.app T_impl_Entry 4 40 (.t 23) (.t 25)), gO 27 (.fld (.t 1) 12), gO 28 (.ld (.t 27)), gO 29 (.bld [.sl 4 [], .sl 2 [], .int .i64 0, .int .i64 0, .str [], .str [], .sl 2 [], .int .i64 0, .sl 10 [], .sl 2 [], .sl 5 [], .sl 4 [], .int .i64 0] [(0, 1, .t 8), (1, 1, .t 12), (2, 6, .t 15), (9, 1, .t 19), (10, 1, .t 22), (11, 1, .t 26), (12, 1, .t 28)]), gO 3 (.alc [.sl 4 [], .sl 2 [], .int .i64 0, .int .i64 0, .str [], .str [], .sl 2 [], .int .i64 0, .sl 10 [], .sl 2 [], .sl 5 [], .sl 4 [], .int .i64 0]), gS (.sto 13 (.t 3) (.t 29))]
def q49r6 := [gO 1 (.box (.t 0)), gO 2 (.alc [.sl 4 [], .sl 2 [], .int .i64 0, .int .i64 0, .str [], .str [], .sl 2 [], .int .i64 0, .sl 10 [], .sl 2 [], .sl 5 [], .sl 4 [], .int .i64 0])]
def q49 : CC := .seq (.reg none q49r6 (nL [1, 2])) (.seq (.any [[], [], [1], [0, 1, 2], [], [], [5], [0, 1, 2, 3, 4, 5, 6], [], [8], [0, 1, 2, 3, 4, 5, 6, 7, 8, 9], [], [], [12], [0, 1, 2, 3, 4, 5, 6, 7, 8, 9, 10, 11, 12, 13], [], [15], [0, 1, 2, 3, 4, 5, 6, 7, 8, 9, 10, 11, 12, 13, 14, 15, 16], [], [], [19], [0, 1, 2, 3, 4, 5, 6, 7, 8, 9, 10, 11, 12, 13, 14, 15, 16, 17, 18, 19, 20], [], [22], [0, 1, 2, 3, 4, 5, 6, 7, 8, 9, 10, 11, 12, 13, 14, 15, 16, 17, 18, 19, 20, 21, 22, 23], [], [0, 1, 2, 3, 4, 5, 6, 7, 8, 9, 10, 11, 12, 13, 14, 15, 16, 17, 18, 19, 20, 21, 22, 23, 24, 25]] q49r5 (nL [1, 2, 3])) (.seq (.seq (.reg none q49r4 (nL [1, 2, 3, 4])) (.blk 0 (.loop q49b0 (nL [1, 2, 3, 4])))) (.seq (.reg none q49r0 (nL [2])) (.ret))))
abbrev L_spec_l33Copy_0 (P : Program) (Q : Env → Prop) (E : Env) : Prop := RunQ P Q (.code q49b0 :: .lp q49b0 (nL [1, 2, 3, 4]) :: [.blk 0, .code (.seq (.reg none q49r0 (nL [2])) (.ret))]) E
theorem k49 : chkF PP Tryz.f49 q49 [.cella 2] = true := by kernel_rfl
theorem SQ_spec_l33Copy : SQOf PP Tryz.f49 49 [.cella 2] q49 F_spec_l33Copy := fun ni no hs hn hni hno h => callsH_of_run ni no Tryz.func49 k49 hs hn hni hno (fun u => h u _ (fun _ h => h))

def q51r0 := [gO 16 (.lda 4 (.t 3)), gS (.sto 4 (.t 2) (.t 16))]
def q51r1 := [gO 13 (.fld (.t 1) 3), gO 14 (.ld (.t 13)), gO 15 (.fld (.t 3) 3), gS (.sto 1 (.t 15) (.t 14))]
def q51r2 := [gO 10 (.fld (.t 1) 2), gO 11 (.ld (.t 10)), gO 12 (.fld (.t 3) 2), gS (.sto 1 (.t 12) (.t 11))]
def q51r3 := [gO 7 (.fld (.t 1) 1), gO 8 (.ld (.t 7)), gO 9 (.fld (.t 3) 1), gS (.sto 1 (.t 9) (.t 8))]
def q51r4 := [gO 4 (.fld (.t 1) 0), gO 5 (.ld (.t 4)), gO 6 (.fld (.t 3) 0), gS (.sto 1 (.t 6) (.t 5))]
def q51r5 := [gO 3 (.alc [.str [], .int .i64 0, .int .i64 0, .int .i64 0])]
def q51r6 := [gO 1 (.box (.t 0)), gO 2 (.alc [.str [], .int .i64 0, .int .i64 0, .int .i64 0])]
def q51 : CC := .seq (.reg none q51r6 [1, 2]) (.seq (.reg none q51r5 [1, 2, 3]) (.seq (.reg none q51r4 [1, 2, 3]) (.seq (.reg none q51r3 [1, 2, 3]) (.seq (.reg none q51r2 [1, 2, 3]) (.seq (.reg none q51r1 [2, 3]) (.seq (.reg none q51r0 [2]) (.ret)))))))
theorem k51 : chkF PP Tryz.f51 q51 [.cella 2] = true := by kernel_rfl
theorem S_laws_toListed : SOf PP Tryz.f51 17 [.cella 2] q51 F_laws_toListed := fun hs hn h => callsOK Tryz.func51 k51 hs hn h

def q52r0 := [gO 10 (.lda 2 (.t 3)), gS (.sto 2 (.t 2) (.t 10))]
def q52r1 := [gO 7 (.fld (.t 1) 1), gO 8 (.ld (.t 7)), gO 9 (.fld (.t 3) 1), gS (.sto 1 (.t 9) (.t 8))]
def q52r2 := [gO 4 (.fld (.t 1) 0), gO 5 (.ld (.t 4)), gO 6 (.fld (.t 3) 0), gS (.sto 1 (.t 6) (.t 5))]
def q52r3 := [gO 3 (.alc [.str [], .int .i64 0])]
def q52r4 := [gO 1 (.box (.t 0)), gO 2 (.alc [.str [], .int .i64 0])]
def q52 : CC := .seq (.reg none q52r4 [1, 2]) (.seq (.reg none q52r3 [1, 2, 3]) (.seq (.reg none q52r2 [1, 2, 3]) (.seq (.reg none q52r1 [2, 3]) (.seq (.reg none q52r0 [2]) (.ret)))))
theorem k52 : chkF PP Tryz.f52 q52 [.cella 2] = true := by kernel_rfl
theorem S_laws_toMeaning : SOf PP Tryz.f52 11 [.cella 2] q52 F_laws_toMeaning := fun hs hn h => callsOK Tryz.func52 k52 hs hn h

def q53r0 := [gO 45 (.lda 13 (.t 1)), gS (.sto 13 (.t 2) (.t 45))]
def q53r1 := [gO 41 (.fld (.t 1) 11), gO 42 (.ld (.t 41)), gO 43 (.call F_slices_Clone_impl_Entry [.t 42]), gO 44 (.fld (.t 1) 11), gS (.sto 1 (.t 44) (.t 43))]
def q53r2 := [gO 37 (.fld (.t 1) 10), gO 38 (.ld (.t 37)), gO 39 (.call F_impl_copyCorrections [.t 38]), gO 40 (.fld (.t 1) 10), gS (.sto 1 (.t 40) (.t 39))]
def q53r3 := [gO 33 (.fld (.t 1) 9), gO 34 (.ld (.t 33)), gO 35 (.call F_slices_Clone_impl_Used [.t 34]), gO 36 (.fld (.t 1) 9), gS (.sto 1 (.t 36) (.t 35))]
def q53r4 := [gV 31 3, gO 32 (.fld (.t 1) 8), gS (.sto 1 (.t 32) (.t 31))]
def q53r5 := [gO 30 (.bin .add (.t 21) (xI 1)), gV 21 30]
def q53r6 := [gV 25 3, gO 26 (.lda 10 (.t 5)), gO 27 (.call F_impl_copyIssue [.t 26]), gO 28 (.bsl 10 [.t 27]), gO 29 (.app T_impl_Issue 10 128 (.t 25) (.t 28)), gO 3 (.asg true (.t 29))]
def q53r7 := [gO 23 (.idx 10 (.t 19) (.t 21)), gO 24 (.lda 10 (.t 23)), gO 5 (.alc [.int .i64 0, .int .i64 0, .int .i64 0, .str [], .sl 2 [], .sl 1 [], .int .i64 0, .str [], .int .i64 0, .int .i64 0]), gS (.sto 10 (.t 5) (.t 24))]
def q53r8 := [gO 22 (.bin .lss (.t 21) (.t 20))]
def q53b0 : CC := .seq (.reg none q53r8 (nL [1, 2, 3, 19, 20, 21, 22])) (.seq (.cnd (.t 22) (.skip) (.exit 0)) (.seq (.blk 1 (.seq (.reg none q53r7 (nL [1, 2, 3, 5, 19, 20, 21])) (.reg none q53r6 (nL [1, 2, 3, 19, 20, 21])))) (.reg none q53r5 (nL [1, 2, 3, 19, 20, 21]))))
def q53r9 := [gO 18 (.fld (.t 1) 8), gO 19 (.ld (.t 18)), gO 20 (.len (.t 19)), gO 21 (.mv (xI 0))]
def q53r10 := [gO 3 (.nilo T_impl_Issue 10 128)]
def q53r11 := [gO 14 (.fld (.t 1) 2), gO 15 (.lda 6 (.t 14)), gO 16 (.call F_impl_copyDraft [.t 15]), gO 17 (.fld (.t 1) 2), gS (.sto 6 (.t 17) (.t 16))]
def q53r12 := [gO 10 (.fld (.t 1) 1), gO 11 (.ld (.t 10)), gO 12 (.call F_slices_Clone_impl_Meaning [.t 11]), gO 13 (.fld (.t 1) 1), gS (.sto 1 (.t 13) (.t 12))]
def q53r13 := [gO 6 (.fld (.t 1) 0), gO 7 (.ld (.t 6)), gO 8 (.call F_slices_Clone_impl_Listed [.t 7]), gO 9 (.fld (.t 1) 0), gS (.sto 1 (.t 9) (.t 8))]
def q53r14 := [gO 1 (.box (.t 0)), gO 2 (.alc [.sl 4 [], .sl 2 [], .int .i64 0, .int .i64 0, .str [], .str [], .sl 2 [], .int .i64 0, .sl 10 [], .sl 2 [], .sl 5 [], .sl 4 [], .int .i64 0])]
def q53 : CC := .seq (.reg none q53r14 (nL [1, 2])) (.seq (.reg none q53r13 (nL [1, 2])) (.seq (.reg none q53r12 (nL [1, 2])) (.seq (.reg none q53r11 (nL [1, 2])) (.seq (.reg none q53r10 (nL [1, 2, 3])) (.seq (.seq (.reg none q53r9 (nL [1, 2, 3, 19, 20, 21])) (.blk 0 (.loop q53b0 (nL [1, 2, 3, 19, 20, 21])))) (.seq (.reg none q53r4 (nL [1, 2])) (.seq (.reg none q53r3 (nL [1, 2])) (.seq (.reg none q53r2 (nL [1, 2])) (.seq (.reg none q53r1 (nL [1, 2])) (.seq (.reg none q53r0 (nL [2])) (.ret)))))))))))
abbrev L_impl_copyHouse_0 (P : Program) (Q : Env → Prop) (E : Env) : Prop := RunQ P Q (.code q53b0 :: .lp q53b0 (nL [1, 2, 3, 19, 20, 21]) :: [.blk 0, .code (.seq (.reg none q53r4 (nL [1, 2])) (.seq (.reg none q53r3 (nL [1, 2])) (.seq (.reg none q53r2 (nL [1, 2])) (.seq (.reg none q53r1 (nL [1, 2])) (.seq (.reg none q53r0 (nL [2])) (.ret))))))]) E
theorem k53 : chkF PP Tryz.f53 q53 [.cella 2] = true := by kernel_rfl
theorem SQ_impl_copyHouse : SQOf PP Tryz.f53 46 [.cella 2] q53 F_impl_copyHouse := fun ni no hs hn hni hno h => callsH_of_run ni no Tryz.func53 k53 hs hn hni hno (fun u => h u _ (fun _ h => h))

def q55r0 := [gO 4 (.asg false (.c (.bool true)))]
def q55r1 := [gO 4 (.asg false (.c (.bool false)))]
def q55r2 := [gO 22 (.fld (.t 2) 5), gO 23 (.ld (.t 22)), gO 24 (.fld (.t 3) 5), gO 25 (.ld (.t 24)), gO 26 (.bin .neq (.t 23) (.t 25))]
def q55r3 := [gO 4 (.asg false (.c (.bool false)))]
def q55r4 := [gO 16 (.fld (.t 2) 4), gO 17 (.ld (.t 16)), gO 18 (.fld (.t 3) 4), gO 19 (.ld (.t 18)), gO 20 (.call F_laws_eqClueS [.t 17, .t 19]), gO 21 (.not (.t 20))]
def q55r5 := [gO 4 (.asg false (.c (.bool false)))]
def q55r6 := [gO 11 (.fld (.t 2) 3), gO 12 (.ld (.t 11)), gO 13 (.fld (.t 3) 3), gO 14 (.ld (.t 13)), gO 15 (.bin .neq (.t 12) (.t 14))]
def q55r7 := [gO 4 (.asg false (.c (.bool false)))]
def q55r8 := [gO 5 (.fld (.t 2) 0), gO 6 (.lda 3 (.t 5)), gO 7 (.fld (.t 3) 0), gO 8 (.lda 3 (.t 7)), gO 9 (.call F_laws_eqGrid [.t 6, .t 8]), gO 10 (.not (.t 9))]
def q55r9 := [gO 2 (.box (.t 0)), gO 3 (.box (.t 1)), gO 4 (.asg false (.c (.bool false)))]
def q55 : CC := .seq (.reg none q55r9 [2, 3]) (.seq (.seq (.reg none q55r8 [2, 3, 10]) (.cnd (.t 10) (.seq (.reg none q55r7 [4]) (.ret)) (.skip))) (.seq (.seq (.reg none q55r6 [2, 3, 15]) (.cnd (.t 15) (.seq (.reg none q55r5 [4]) (.ret)) (.skip))) (.seq (.seq (.reg none q55r4 [2, 3, 21]) (.cnd (.t 21) (.seq (.reg none q55r3 [4]) (.ret)) (.skip))) (.seq (.seq (.reg none q55r2 [26]) (.cnd (.t 26) (.seq (.reg none q55r1 [4]) (.ret)) (.skip))) (.seq (.reg none q55r0 [4]) (.ret))))))
theorem k55 : chkF PP Tryz.f55 q55 [.tmp 4] = true := by kernel_rfl
theorem S_laws_eqDraft : SOf PP Tryz.f55 27 [.tmp 4] q55 F_laws_eqDraft := fun hs hn h => callsOK Tryz.func55 k55 hs hn h

def q56r0 := [gO 4 (.asg false (.c (.bool true)))]
def q56r1 := [gV 15 5, gO 16 (.bin .add (.t 15) (xI 1)), gO 5 (.asg true (.t 16))]
def q56r2 := [gO 4 (.asg false (.c (.bool false)))]
def q56r3 := [gV 17 0, gV 18 5, gO 19 (.idx 10 (.t 17) (.t 18)), gO 20 (.lda 10 (.t 19)), gV 21 1, gV 22 5, gO 23 (.idx 10 (.t 21) (.t 22)), gO 24 (.lda 10 (.t 23)), gO 25 (.call F_laws_eqIssue [.t 20, .t 24]), gO 26 (.not (.t 25))]
def q56r4 := [gV 11 5, gV 12 0, gO 13 (.len (.t 12)), gO 14 (.bin .lss (.t 11) (.t 13))]
def q56b0 : CC := .seq (.seq (.reg none q56r4 [0, 1, 5, 14]) (.cnd (.t 14) (.skip) (.exit 0))) (.seq (.blk 1 (.seq (.reg (some (10, [[], [], [0, 1], [0, 1, 2], [], [], [4, 5], [4, 5, 6], [0, 1, 2, 3, 4, 5, 6, 7], [0, 1, 2, 3, 4, 5, 6, 7, 8]])) q56r3 [0, 1, 5, 26]) (.cnd (.t 26) (.seq (.reg none q56r2 [4]) (.ret)) (.skip)))) (.reg none q56r1 [0, 1, 5]))
def q56r5 := [gO 5 (.asg false (xI 0))]
def q56r6 := [gO 4 (.asg false (.c (.bool false)))]
def q56r7 := [gV 6 0, gO 7 (.len (.t 6)), gV 8 1, gO 9 (.len (.t 8)), gO 10 (.bin .neq (.t 7) (.t 9))]
def q56r8 := [gO 4 (.asg false (.c (.bool false)))]
def q56 : CC := .seq (.reg none q56r8 [0, 1]) (.seq (.seq (.reg none q56r7 [0, 1, 10]) (.cnd (.t 10) (.seq (.reg none q56r6 [4]) (.ret)) (.skip))) (.seq (.seq (.reg none q56r5 [0, 1, 5]) (.blk 0 (.loop q56b0 [0, 1, 5]))) (.seq (.reg none q56r0 [4]) (.ret))))
abbrev L_laws_eqIssueS_0 (P : Program) (E : Env) (r : List RV) : Prop := Run P [.tmp 4] (.code q56b0 :: .lp q56b0 [0, 1, 5] :: [.blk 0, .code (.seq (.reg none q56r0 [4]) (.ret))]) E r
theorem k56 : chkF PP Tryz.f56 q56 [.tmp 4] = true := by kernel_rfl
theorem S_laws_eqIssueS : SOf PP Tryz.f56 27 [.tmp 4] q56 F_laws_eqIssueS := fun hs hn h => callsOK Tryz.func56 k56 hs hn h

def q57r0 := [gO 4 (.asg false (.c (.bool true)))]
def q57r1 := [gV 15 5, gO 16 (.bin .add (.t 15) (xI 1)), gO 5 (.asg true (.t 16))]
def q57r2 := [gO 4 (.asg false (.c (.bool false)))]
def q57r3 := [gV 17 0, gV 18 5, gO 19 (.idx 2 (.t 17) (.t 18)), gO 20 (.lda 2 (.t 19)), gV 21 1, gV 22 5, gO 23 (.idx 2 (.t 21) (.t 22)), gO 24 (.lda 2 (.t 23)), gO 25 (.call F_laws_eqUsed [.t 20, .t 24]), gO 26 (.not (.t 25))]
def q57r4 := [gV 11 5, gV 12 0, gO 13 (.len (.t 12)), gO 14 (.bin .lss (.t 11) (.t 13))]
def q57b0 : CC := .seq (.seq (.reg none q57r4 [0, 1, 5, 14]) (.cnd (.t 14) (.skip) (.exit 0))) (.seq (.blk 1 (.seq (.reg (some (10, [[], [], [0, 1], [0, 1, 2], [], [], [4, 5], [4, 5, 6], [0, 1, 2, 3, 4, 5, 6, 7], [0, 1, 2, 3, 4, 5, 6, 7, 8]])) q57r3 [0, 1, 5, 26]) (.cnd (.t 26) (.seq (.reg none q57r2 [4]) (.ret)) (.skip)))) (.reg none q57r1 [0, 1, 5]))
def q57r5 := [gO 5 (.asg false (xI 0))]
def q57r6 := [gO 4 (.asg false (.c (.bool false)))]
def q57r7 := [gV 6 0, gO 7 (.len (.t 6)), gV 8 1, gO 9 (.len (.t 8)), gO 10 (.bin .neq (.t 7) (.t 9))]
def q57r8 := [gO 4 (.asg false (.c (.bool false)))]
def q57 : CC := .seq (.reg none q57r8 [0, 1]) (.seq (.seq (.reg none q57r7 [0, 1, 10]) (.cnd (.t 10) (.seq (.reg none q57r6 [4]) (.ret)) (.skip))) (.seq (.seq (.reg none q57r5 [0, 1, 5]) (.blk 0 (.loop q57b0 [0, 1, 5]))) (.seq (.reg none q57r0 [4]) (.ret))))
abbrev L_laws_eqUsedS_0 (P : Program) (E : Env) (r : List RV) : Prop := Run P [.tmp 4] (.code q57b0 :: .lp q57b0 [0, 1, 5] :: [.blk 0, .code (.seq (.reg none q57r0 [4]) (.ret))]) E r
theorem k57 : chkF PP Tryz.f57 q57 [.tmp 4] = true := by kernel_rfl
theorem S_laws_eqUsedS : SOf PP Tryz.f57 27 [.tmp 4] q57 F_laws_eqUsedS := fun hs hn h => callsOK Tryz.func57 k57 hs hn h

def q58r0 := [gO 4 (.asg false (.c (.bool true)))]
def q58r1 := [gV 15 5, gO 16 (.bin .add (.t 15) (xI 1)), gO 5 (.asg true (.t 16))]
def q58r2 := [gO 4 (.asg false (.c (.bool false)))]
def q58r3 := [gV 17 0, gV 18 5, gO 19 (.idx 5 (.t 17) (.t 18)), gO 20 (.lda 5 (.t 19)), gV 21 1, gV 22 5, gO 23 (.idx 5 (.t 21) (.t 22)), gO 24 (.lda 5 (.t 23)), gO 25 (.call F_laws_eqCorrection [.t 20, .t 24]), gO 26 (.not (.t 25))]
def q58r4 := [gV 11 5, gV 12 0, gO 13 (.len (.t 12)), gO 14 (.bin .lss (.t 11) (.t 13))]
def q58b0 : CC := .seq (.seq (.reg none q58r4 [0, 1, 5, 14]) (.cnd (.t 14) (.skip) (.exit 0))) (.seq (.blk 1 (.seq (.reg (some (10, [[], [], [0, 1], [0, 1, 2], [], [], [4, 5], [4, 5, 6], [0, 1, 2, 3, 4, 5, 6, 7], [0, 1, 2, 3, 4, 5, 6, 7, 8]])) q58r3 [0, 1, 5, 26]) (.cnd (.t 26) (.seq (.reg none q58r2 [4]) (.ret)) (.skip)))) (.reg none q58r1 [0, 1, 5]))
def q58r5 := [gO 5 (.asg false (xI 0))]
def q58r6 := [gO 4 (.asg false (.c (.bool false)))]
def q58r7 := [gV 6 0, gO 7 (.len (.t 6)), gV 8 1, gO 9 (.len (.t 8)), gO 10 (.bin .neq (.t 7) (.t 9))]
def q58r8 := [gO 4 (.asg false (.c (.bool false)))]
def q58 : CC := .seq (.reg none q58r8 [0, 1]) (.seq (.seq (.reg none q58r7 [0, 1, 10]) (.cnd (.t 10) (.seq (.reg none q58r6 [4]) (.ret)) (.skip))) (.seq (.seq (.reg none q58r5 [0, 1, 5]) (.blk 0 (.loop q58b0 [0, 1, 5]))) (.seq (.reg none q58r0 [4]) (.ret))))
abbrev L_laws_eqCorrectionS_0 (P : Program) (E : Env) (r : List RV) : Prop := Run P [.tmp 4] (.code q58b0 :: .lp q58b0 [0, 1, 5] :: [.blk 0, .code (.seq (.reg none q58r0 [4]) (.ret))]) E r
theorem k58 : chkF PP Tryz.f58 q58 [.tmp 4] = true := by kernel_rfl
theorem S_laws_eqCorrectionS : SOf PP Tryz.f58 27 [.tmp 4] q58 F_laws_eqCorrectionS := fun hs hn h => callsOK Tryz.func58 k58 hs hn h

def q59r0 := [gO 4 (.asg false (.c (.bool true)))]
def q59r1 := [gV 15 5, gO 16 (.bin .add (.t 15) (xI 1)), gO 5 (.asg true (.t 16))]
def q59r2 := [gO 4 (.asg false (.c (.bool false)))]
def q59r3 := [gV 17 0, gV 18 5, gO 19 (.idx 4 (.t 17) (.t 18)), gO 20 (.lda 4 (.t 19)), gV 21 1, gV 22 5, gO 23 (.idx 4 (.t 21) (.t 22)), gO 24 (.lda 4 (.t 23)), gO 25 (.call F_laws_eqEntry [.t 20, .t 24]), gO 26 (.not (.t 25))]
def q59r4 := [gV 11 5, gV 12 0, gO 13 (.len (.t 12)), gO 14 (.bin .lss (.t 11) (.t 13))]
def q59b0 : CC := .seq (.seq (.reg none q59r4 [0, 1, 5, 14]) (.cnd (.t 14) (.skip) (.exit 0))) (.seq (.blk 1 (.seq (.reg (some (10, [[], [], [0, 1], [0, 1, 2], [], [], [4, 5], [4, 5, 6], [0, 1, 2, 3, 4, 5, 6, 7], [0, 1, 2, 3, 4, 5, 6, 7, 8]])) q59r3 [0, 1, 5, 26]) (.cnd (.t 26) (.seq (.reg none q59r2 [4]) (.ret)) (.skip)))) (.reg none q59r1 [0, 1, 5]))
def q59r5 := [gO 5 (.asg false (xI 0))]
def q59r6 := [gO 4 (.asg false (.c (.bool false)))]
def q59r7 := [gV 6 0, gO 7 (.len (.t 6)), gV 8 1, gO 9 (.len (.t 8)), gO 10 (.bin .neq (.t 7) (.t 9))]
def q59r8 := [gO 4 (.asg false (.c (.bool false)))]
def q59 : CC := .seq (.reg none q59r8 [0, 1]) (.seq (.seq (.reg none q59r7 [0, 1, 10]) (.cnd (.t 10) (.seq (.reg none q59r6 [4]) (.ret)) (.skip))) (.seq (.seq (.reg none q59r5 [0, 1, 5]) (.blk 0 (.loop q59b0 [0, 1, 5]))) (.seq (.reg none q59r0 [4]) (.ret))))
abbrev L_laws_eqEntryS_0 (P : Program) (E : Env) (r : List RV) : Prop := Run P [.tmp 4] (.code q59b0 :: .lp q59b0 [0, 1, 5] :: [.blk 0, .code (.seq (.reg none q59r0 [4]) (.ret))]) E r
theorem k59 : chkF PP Tryz.f59 q59 [.tmp 4] = true := by kernel_rfl
theorem S_laws_eqEntryS : SOf PP Tryz.f59 27 [.tmp 4] q59 F_laws_eqEntryS := fun hs hn h => callsOK Tryz.func59 k59 hs hn h

def q60r0 := [gO 4 (.asg false (.c (.bool true)))]
def q60r1 := [gO 4 (.asg false (.c (.bool false)))]
def q60r2 := [gO 20 (.fld (.t 2) 3), gO 21 (.ld (.t 20)), gO 22 (.fld (.t 3) 3), gO 23 (.ld (.t 22)), gO 24 (.bin .neq (.t 21) (.t 23))]
def q60r3 := [gO 4 (.asg false (.c (.bool false)))]
def q60r4 := [gO 15 (.fld (.t 2) 2), gO 16 (.ld (.t 15)), gO 17 (.fld (.t 3) 2), gO 18 (.ld (.t 17)), gO 19 (.bin .neq (.t 16) (.t 18))]
def q60r5 := [gO 4 (.asg false (.c (.bool false)))]
def q60r6 := [gO 10 (.fld (.t 2) 1), gO 11 (.ld (.t 10)), gO 12 (.fld (.t 3) 1), gO 13 (.ld (.t 12)), gO 14 (.bin .neq (.t 11) (.t 13))]
def q60r7 := [gO 4 (.asg false (.c (.bool false)))]
def q60r8 := [gO 5 (.fld (.t 2) 0), gO 6 (.ld (.t 5)), gO 7 (.fld (.t 3) 0), gO 8 (.ld (.t 7)), gO 9 (.bin .neq (.t 6) (.t 8))]
def q60r9 := [gO 2 (.box (.t 0)), gO 3 (.box (.t 1)), gO 4 (.asg false (.c (.bool false)))]
def q60 : CC := .seq (.reg none q60r9 [2, 3]) (.seq (.seq (.reg none q60r8 [2, 3, 9]) (.cnd (.t 9) (.seq (.reg none q60r7 [4]) (.ret)) (.skip))) (.seq (.seq (.reg none q60r6 [2, 3, 14]) (.cnd (.t 14) (.seq (.reg none q60r5 [4]) (.ret)) (.skip))) (.seq (.seq (.reg none q60r4 [2, 3, 19]) (.cnd (.t 19) (.seq (.reg none q60r3 [4]) (.ret)) (.skip))) (.seq (.seq (.reg none q60r2 [24]) (.cnd (.t 24) (.seq (.reg none q60r1 [4]) (.ret)) (.skip))) (.seq (.reg none q60r0 [4]) (.ret))))))
theorem k60 : chkF PP Tryz.f60 q60 [.tmp 4] = true := by kernel_rfl
theorem S_laws_eqListed : SOf PP Tryz.f60 25 [.tmp 4] q60 F_laws_eqListed := fun hs hn h => callsOK Tryz.func60 k60 hs hn h

def q61r0 := [gO 4 (.asg false (.c (.bool true)))]
def q61r1 := [gO 4 (.asg false (.c (.bool false)))]
def q61r2 := [gO 10 (.fld (.t 2) 1), gO 11 (.ld (.t 10)), gO 12 (.fld (.t 3) 1), gO 13 (.ld (.t 12)), gO 14 (.bin .neq (.t 11) (.t 13))]
def q61r3 := [gO 4 (.asg false (.c (.bool false)))]
def q61r4 := [gO 5 (.fld (.t 2) 0), gO 6 (.ld (.t 5)), gO 7 (.fld (.t 3) 0), gO 8 (.ld (.t 7)), gO 9 (.bin .neq (.t 6) (.t 8))]
def q61r5 := [gO 2 (.box (.t 0)), gO 3 (.box (.t 1)), gO 4 (.asg false (.c (.bool false)))]
def q61 : CC := .seq (.reg none q61r5 [2, 3]) (.seq (.seq (.reg none q61r4 [2, 3, 9]) (.cnd (.t 9) (.seq (.reg none q61r3 [4]) (.ret)) (.skip))) (.seq (.seq (.reg none q61r2 [14]) (.cnd (.t 14) (.seq (.reg none q61r1 [4]) (.ret)) (.skip))) (.seq (.reg none q61r0 [4]) (.ret))))
theorem k61 : chkF PP Tryz.f61 q61 [.tmp 4] = true := by kernel_rfl
theorem S_laws_eqMeaning : SOf PP Tryz.f61 15 [.tmp 4] q61 F_laws_eqMeaning := fun hs hn h => callsOK Tryz.func61 k61 hs hn h

def q62r0 := [gV 18 3, gO 19 (.bin .add (.c (.str [109])) (.t 18)), gO 2 (.asg true (.t 19))]
def q62r1 := [gV 16 0, gO 17 (.bin .quo (.t 16) (xI 10)), gO 0 (.asg true (.t 17))]
def q62r2 := [gV 8 0, gO 9 (.bin .rem (.t 8) (xI 10)), gO 10 (.bin .add (xI 48) (.t 9)), gO 11 (.cvi .u8 (.t 10)), gO 12 (.bsl 1 [.t 11]), gO 13 (.b2s (.t 12)), gV 14 3, gO 15 (.bin .add (.t 13) (.t 14)), gO 3 (.asg true (.t 15))]
def q62r3 := [gV 6 0, gO 7 (.bin .gtr (.t 6) (xI 0))]
def q62b0 : CC := .seq (.seq (.reg none q62r3 (nL [0, 3, 7])) (.cnd (.t 7) (.skip) (.exit 0))) (.blk 1 (.seq (.reg none q62r2 (nL [0, 3])) (.reg none q62r1 (nL [0, 3]))))
def q62r4 := [gO 3 (.asg false (.c (.str [])))]
def q62r5 := [gO 2 (.asg false (.c (.str [109, 48])))]
def q62r6 := [gV 4 0, gO 5 (.bin .leq (.t 4) (xI 0))]
def q62r7 := [gO 2 (.asg false (.c (.str [])))]
def q62 : CC := .seq (.reg none q62r7 (nL [0])) (.seq (.seq (.reg none q62r6 (nL [0, 5])) (.cnd (.t 5) (.seq (.reg none q62r5 (nL [2])) (.ret)) (.skip))) (.seq (.reg none q62r4 (nL [0, 3])) (.seq (.blk 0 (.loop q62b0 (nL [0, 3]))) (.seq (.reg none q62r0 (nL [2])) (.ret)))))
abbrev L_laws_markText_0 (P : Program) (Q : Env → Prop) (E : Env) : Prop := RunQ P Q (.code q62b0 :: .lp q62b0 (nL [0, 3]) :: [.blk 0, .code (.seq (.reg none q62r0 (nL [2])) (.ret))]) E
theorem k62 : chkF PP Tryz.f62 q62 [.tmp 2] = true := by kernel_rfl
theorem S_laws_markText : SOf PP Tryz.f62 20 [.tmp 2] q62 F_laws_markText := fun hs hn h => callsOK Tryz.func62 k62 hs hn h

def q63r0 := [gV 9 1, gO 4 (.asg true (.t 9))]
def q63r1 := [gO 5 (.fld (.t 2) 4), gO 6 (.ld (.t 5)), gV 7 1, gO 8 (.call F_laws_markClueS [.t 6, .t 7]), gO 1 (.asg true (.t 8))]
def q63r2 := [gO 2 (.box (.t 0)), gO 4 (.asg false (xI 0))]
def q63 : CC := .seq (.reg none q63r2 (nL [1, 2])) (.seq (.reg none q63r1 (nL [1])) (.seq (.reg none q63r0 (nL [4])) (.ret)))
theorem k63 : chkF PP Tryz.f63 q63 [.tmp 4] = true := by kernel_rfl
theorem SQ_laws_markDraft : SQOf PP Tryz.f63 10 [.tmp 4] q63 F_laws_markDraft := fun ni no hs hn hni hno h => callsH_of_run ni no Tryz.func63 k63 hs hn hni hno (fun u => h u _ (fun _ h => h))

def q64r0 := [gV 93 1, gO 4 (.asg true (.t 93))]
def q64r1 := [gV 10 5, gO 11 (.bin .add (.t 10) (xI 1)), gO 5 (.asg true (.t 11))]
def q64r2 := [gV 91 1, gO 92 (.bin .add (.t 91) (xI 1)), gO 1 (.asg true (.t 92))]
def q64r3 := [gV 86 0, gV 87 5, gV 88 1, gO 89 (.idx 10 (.t 86) (.t 87)), gO 90 (.fld (.t 89) 9), gS (.sto 1 (.t 90) (.t 88))]
def q64r4 := [gV 84 1, gO 85 (.bin .add (.t 84) (xI 1)), gO 1 (.asg true (.t 85))]
def q64r5 := [gV 79 0, gV 80 5, gV 81 1, gO 82 (.idx 10 (.t 79) (.t 80)), gO 83 (.fld (.t 82) 8), gS (.sto 1 (.t 83) (.t 81))]
def q64r6 := [gV 77 1, gO 78 (.bin .add (.t 77) (xI 1)), gO 1 (.asg true (.t 78))]
def q64r7 := [gV 71 0, gV 72 5, gV 73 1, gO 74 (.call F_laws_markText [.t 73]), gO 75 (.idx 10 (.t 71) (.t 72)), gO 76 (.fld (.t 75) 7), gS (.sto 1 (.t 76) (.t 74))]
def q64r8 := [gV 69 1, gO 70 (.bin .add (.t 69) (xI 1)), gO 1 (.asg true (.t 70))]
def q64r9 := [gV 63 0, gV 64 5, gV 65 1, gO 66 (.idx 10 (.t 63) (.t 64)), gO 67 (.fld (.t 66) 1), gO 68 (.fld (.t 67) 5), gS (.sto 1 (.t 68) (.t 65))]
def q64r10 := [gV 55 0, gV 56 5, gO 57 (.idx 10 (.t 55) (.t 56)), gO 58 (.fld (.t 57) 1), gO 59 (.fld (.t 58) 4), gO 60 (.ld (.t 59)), gV 61 1, gO 62 (.call F_laws_markIntS [.t 60, .t 61]), gO 1 (.asg true (.t 62))]
def q64r11 := [gV 47 0, gV 48 5, gO 49 (.idx 10 (.t 47) (.t 48)), gO 50 (.fld (.t 49) 1), gO 51 (.fld (.t 50) 3), gO 52 (.ld (.t 51)), gV 53 1, gO 54 (.call F_laws_markClueS [.t 52, .t 53]), gO 1 (.asg true (.t 54))]
def q64r12 := [gV 45 1, gO 46 (.bin .add (.t 45) (xI 1)), gO 1 (.asg true (.t 46))]
def q64r13 := [gV 37 0, gV 38 5, gV 39 1, gO 40 (.call F_laws_markText [.t 39]), gO 41 (.idx 10 (.t 37) (.t 38)), gO 42 (.fld (.t 41) 1), gO 43 (.fld (.t 42) 0), gO 44 (.fld (.t 43) 2), gS (.sto 1 (.t 44) (.t 40))]
def q64r14 := [gV 35 1, gO 36 (.bin .add (.t 35) (xI 1)), gO 1 (.asg true (.t 36))]
def q64r15 := [gV 28 0, gV 29 5, gV 30 1, gO 31 (.idx 10 (.t 28) (.t 29)), gO 32 (.fld (.t 31) 1), gO 33 (.fld (.t 32) 0), gO 34 (.fld (.t 33) 1), gS (.sto 1 (.t 34) (.t 30))]
def q64r16 := [gV 26 1, gO 27 (.bin .add (.t 26) (xI 1)), gO 1 (.asg true (.t 27))]
def q64r17 := [gV 19 0, gV 20 5, gV 21 1, gO 22 (.idx 10 (.t 19) (.t 20)), gO 23 (.fld (.t 22) 1), gO 24 (.fld (.t 23) 0), gO 25 (.fld (.t 24) 0), gS (.sto 1 (.t 25) (.t 21))]
def q64r18 := [gV 17 1, gO 18 (.bin .add (.t 17) (xI 1)), gO 1 (.asg true (.t 18))]
def q64r19 := [gV 12 0, gV 13 5, gV 14 1, gO 15 (.idx 10 (.t 12) (.t 13)), gO 16 (.fld (.t 15) 0), gS (.sto 1 (.t 16) (.t 14))]
def q64r20 := [gV 6 5, gV 7 0, gO 8 (.len (.t 7)), gO 9 (.bin .lss (.t 6) (.t 8))]
def q64b0 : CC := .seq (.seq (.reg none q64r20 (nL [0, 1, 5, 9])) (.cnd (.t 9) (.skip) (.exit 0))) (.seq (.blk 1 (.seq (.reg none q64r19 (nL [0, 1, 5])) (.seq (.reg none q64r18 (nL [0, 1, 5])) (.seq (.reg none q64r17 (nL [0, 1, 5])) (.seq (.reg none q64r16 (nL [0, 1, 5])) (.seq (.reg none q64r15 (nL [0, 1, 5])) (.seq (.reg none q64r14 (nL [0, 1, 5])) (.seq (.reg none q64r13 (nL [0, 1, 5])) (.seq (.reg none q64r12 (nL [0, 1, 5])) (.seq (.reg none q64r11 (nL [0, 1, 5])) (.seq (.reg none q64r10 (nL [0, 1, 5])) (.seq (.reg none q64r9 (nL [0, 1, 5])) (.seq (.reg none q64r8 (nL [0, 1, 5])) (.seq (.reg none q64r7 (nL [0, 1, 5])) (.seq (.reg none q64r6 (nL [0, 1, 5])) (.seq (.reg none q64r5 (nL [0, 1, 5])) (.seq (.reg none q64r4 (nL [0, 1, 5])) (.seq (.reg none q64r3 (nL [0, 1, 5])) (.reg none q64r2 (nL [0, 1, 5])))))))))))))))))))) (.reg none q64r1 (nL [0, 1, 5])))
def q64r21 := [gO 5 (.asg false (xI 0))]
def q64r22 := [gO 4 (.asg false (xI 0))]
def q64 : CC := .seq (.reg none q64r22 (nL [0, 1])) (.seq (.seq (.reg none q64r21 (nL [0, 1, 5])) (.blk 0 (.loop q64b0 (nL [0, 1, 5])))) (.seq (.reg none q64r0 (nL [4])) (.ret)))
abbrev L_laws_markIssueS_0 (P : Program) (Q : Env → Prop) (E : Env) : Prop := RunQ P Q (.code q64b0 :: .lp q64b0 (nL [0, 1, 5]) :: [.blk 0, .code (.seq (.reg none q64r0 (nL [4])) (.ret))]) E
theorem k64 : chkF PP Tryz.f64 q64 [.tmp 4] = true := by kernel_rfl
theorem SQ_laws_markIssueS : SQOf PP Tryz.f64 94 [.tmp 4] q64 F_laws_markIssueS := fun ni no hs hn hni hno h => callsH_of_run ni no Tryz.func64 k64 hs hn hni hno (fun u => h u _ (fun _ h => h))

def q65r0 := [gV 27 1, gO 4 (.asg true (.t 27))]
def q65r1 := [gV 10 5, gO 11 (.bin .add (.t 10) (xI 1)), gO 5 (.asg true (.t 11))]
def q65r2 := [gV 25 1, gO 26 (.bin .add (.t 25) (xI 1)), gO 1 (.asg true (.t 26))]
def q65r3 := [gV 20 0, gV 21 5, gV 22 1, gO 23 (.idx 2 (.t 20) (.t 21)), gO 24 (.fld (.t 23) 1), gS (.sto 1 (.t 24) (.t 22))]
def q65r4 := [gV 18 1, gO 19 (.bin .add (.t 18) (xI 1)), gO 1 (.asg true (.t 19))]
def q65r5 := [gV 12 0, gV 13 5, gV 14 1, gO 15 (.call F_laws_markText [.t 14]), gO 16 (.idx 2 (.t 12) (.t 13)), gO 17 (.fld (.t 16) 0), gS (.sto 1 (.t 17) (.t 15))]
def q65r6 := [gV 6 5, gV 7 0, gO 8 (.len (.t 7)), gO 9 (.bin .lss (.t 6) (.t 8))]
def q65b0 : CC := .seq (.seq (.reg none q65r6 (nL [0, 1, 5, 9])) (.cnd (.t 9) (.skip) (.exit 0))) (.seq (.blk 1 (.seq (.reg none q65r5 (nL [0, 1, 5])) (.seq (.reg none q65r4 (nL [0, 1, 5])) (.seq (.reg none q65r3 (nL [0, 1, 5])) (.reg none q65r2 (nL [0, 1, 5])))))) (.reg none q65r1 (nL [0, 1, 5])))
def q65r7 := [gO 5 (.asg false (xI 0))]
def q65r8 := [gO 4 (.asg false (xI 0))]
def q65 : CC := .seq (.reg none q65r8 (nL [0, 1])) (.seq (.seq (.reg none q65r7 (nL [0, 1, 5])) (.blk 0 (.loop q65b0 (nL [0, 1, 5])))) (.seq (.reg none q65r0 (nL [4])) (.ret)))
abbrev L_laws_markUsedS_0 (P : Program) (Q : Env → Prop) (E : Env) : Prop := RunQ P Q (.code q65b0 :: .lp q65b0 (nL [0, 1, 5]) :: [.blk 0, .code (.seq (.reg none q65r0 (nL [4])) (.ret))]) E
theorem k65 : chkF PP Tryz.f65 q65 [.tmp 4] = true := by kernel_rfl
theorem SQ_laws_markUsedS : SQOf PP Tryz.f65 28 [.tmp 4] q65 F_laws_markUsedS := fun ni no hs hn hni hno h => callsH_of_run ni no Tryz.func65 k65 hs hn hni hno (fun u => h u _ (fun _ h => h))

def q66r0 := [gV 49 1, gO 4 (.asg true (.t 49))]
def q66r1 := [gV 10 5, gO 11 (.bin .add (.t 10) (xI 1)), gO 5 (.asg true (.t 11))]
def q66r2 := [gV 47 1, gO 48 (.bin .add (.t 47) (xI 1)), gO 1 (.asg true (.t 48))]
def q66r3 := [gV 42 0, gV 43 5, gV 44 1, gO 45 (.idx 5 (.t 42) (.t 43)), gO 46 (.fld (.t 45) 4), gS (.sto 1 (.t 46) (.t 44))]
def q66r4 := [gV 34 0, gV 35 5, gO 36 (.idx 5 (.t 34) (.t 35)), gO 37 (.fld (.t 36) 2), gO 38 (.fld (.t 37) 1), gO 39 (.ld (.t 38)), gV 40 1, gO 41 (.call F_laws_markStepS [.t 39, .t 40]), gO 1 (.asg true (.t 41))]
def q66r5 := [gV 32 1, gO 33 (.bin .add (.t 32) (xI 1)), gO 1 (.asg true (.t 33))]
def q66r6 := [gV 26 0, gV 27 5, gV 28 1, gO 29 (.idx 5 (.t 26) (.t 27)), gO 30 (.fld (.t 29) 2), gO 31 (.fld (.t 30) 0), gS (.sto 1 (.t 31) (.t 28))]
def q66r7 := [gV 24 1, gO 25 (.bin .add (.t 24) (xI 1)), gO 1 (.asg true (.t 25))]
def q66r8 := [gV 19 0, gV 20 5, gV 21 1, gO 22 (.idx 5 (.t 19) (.t 20)), gO 23 (.fld (.t 22) 1), gS (.sto 1 (.t 23) (.t 21))]
def q66r9 := [gV 17 1, gO 18 (.bin .add (.t 17) (xI 1)), gO 1 (.asg true (.t 18))]
def q66r10 := [gV 12 0, gV 13 5, gV 14 1, gO 15 (.idx 5 (.t 12) (.t 13)), gO 16 (.fld (.t 15) 0), gS (.sto 1 (.t 16) (.t 14))]
def q66r11 := [gV 6 5, gV 7 0, gO 8 (.len (.t 7)), gO 9 (.bin .lss (.t 6) (.t 8))]
def q66b0 : CC := .seq (.seq (.reg none q66r11 (nL [0, 1, 5, 9])) (.cnd (.t 9) (.skip) (.exit 0))) (.seq (.blk 1 (.seq (.reg none q66r10 (nL [0, 1, 5])) (.seq (.reg none q66r9 (nL [0, 1, 5])) (.seq (.reg none q66r8 (nL [0, 1, 5])) (.seq (.reg none q66r7 (nL [0, 1, 5])) (.seq (.reg none q66r6 (nL [0, 1, 5])) (.seq (.reg none q66r5 (nL [0, 1, 5])) (.seq (.reg none q66r4 (nL [0, 1, 5])) (.seq (.reg none q66r3 (nL [0, 1, 5])) (.reg none q66r2 (nL [0, 1, 5]))))))))))) (.reg none q66r1 (nL [0, 1, 5])))
def q66r12 := [gO 5 (.asg false (xI 0))]
def q66r13 := [gO 4 (.asg false (xI 0))]
def q66 : CC := .seq (.reg none q66r13 (nL [0, 1])) (.seq (.seq (.reg none q66r12 (nL [0, 1, 5])) (.blk 0 (.loop q66b0 (nL [0, 1, 5])))) (.seq (.reg none q66r0 (nL [4])) (.ret)))
abbrev L_laws_markCorrectionS_0 (P : Program) (Q : Env → Prop) (E : Env) : Prop := RunQ P Q (.code q66b0 :: .lp q66b0 (nL [0, 1, 5]) :: [.blk 0, .code (.seq (.reg none q66r0 (nL [4])) (.ret))]) E
theorem k66 : chkF PP Tryz.f66 q66 [.tmp 4] = true := by kernel_rfl
theorem SQ_laws_markCorrectionS : SQOf PP Tryz.f66 50 [.tmp 4] q66 F_laws_markCorrectionS := fun ni no hs hn hni hno h => callsH_of_run ni no Tryz.func66 k66 hs hn hni hno (fun u => h u _ (fun _ h => h))

def q67r0 := [gV 41 1, gO 4 (.asg true (.t 41))]
def q67r1 := [gV 10 5, gO 11 (.bin .add (.t 10) (xI 1)), gO 5 (.asg true (.t 11))]
def q67r2 := [gV 39 1, gO 40 (.bin .add (.t 39) (xI 1)), gO 1 (.asg true (.t 40))]
def q67r3 := [gV 33 0, gV 34 5, gV 35 1, gO 36 (.call F_laws_markText [.t 35]), gO 37 (.idx 4 (.t 33) (.t 34)), gO 38 (.fld (.t 37) 3), gS (.sto 1 (.t 38) (.t 36))]
def q67r4 := [gV 31 1, gO 32 (.bin .add (.t 31) (xI 1)), gO 1 (.asg true (.t 32))]
def q67r5 := [gV 26 0, gV 27 5, gV 28 1, gO 29 (.idx 4 (.t 26) (.t 27)), gO 30 (.fld (.t 29) 2), gS (.sto 1 (.t 30) (.t 28))]
def q67r6 := [gV 24 1, gO 25 (.bin .add (.t 24) (xI 1)), gO 1 (.asg true (.t 25))]
def q67r7 := [gV 19 0, gV 20 5, gV 21 1, gO 22 (.idx 4 (.t 19) (.t 20)), gO 23 (.fld (.t 22) 1), gS (.sto 1 (.t 23) (.t 21))]
def q67r8 := [gV 17 1, gO 18 (.bin .add (.t 17) (xI 1)), gO 1 (.asg true (.t 18))]
def q67r9 := [gV 12 0, gV 13 5, gV 14 1, gO 15 (.idx 4 (.t 12) (.t 13)), gO 16 (.fld (.t 15) 0), gS (.sto 1 (.t 16) (.t 14))]
def q67r10 := [gV 6 5, gV 7 0, gO 8 (.len (.t 7)), gO 9 (.bin .lss (.t 6) (.t 8))]
def q67b0 : CC := .seq (.seq (.reg none q67r10 (nL [0, 1, 5, 9])) (.cnd (.t 9) (.skip) (.exit 0))) (.seq (.blk 1 (.seq (.reg none q67r9 (nL [0, 1, 5])) (.seq (.reg none q67r8 (nL [0, 1, 5])) (.seq (.reg none q67r7 (nL [0, 1, 5])) (.seq (.reg none q67r6 (nL [0, 1, 5])) (.seq (.reg none q67r5 (nL [0, 1, 5])) (.seq (.reg none q67r4 (nL [0, 1, 5])) (.seq (.reg none q67r3 (nL [0, 1, 5])) (.reg none q67r2 (nL [0, 1, 5])))))))))) (.reg none q67r1 (nL [0, 1, 5])))
def q67r11 := [gO 5 (.asg false (xI 0))]
def q67r12 := [gO 4 (.asg false (xI 0))]
def q67 : CC := .seq (.reg none q67r12 (nL [0, 1])) (.seq (.seq (.reg none q67r11 (nL [0, 1, 5])) (.blk 0 (.loop q67b0 (nL [0, 1, 5])))) (.seq (.reg none q67r0 (nL [4])) (.ret)))
abbrev L_laws_markEntryS_0 (P : Program) (Q : Env → Prop) (E : Env) : Prop := RunQ P Q (.code q67b0 :: .lp q67b0 (nL [0, 1, 5]) :: [.blk 0, .code (.seq (.reg none q67r0 (nL [4])) (.ret))]) E
theorem k67 : chkF PP Tryz.f67 q67 [.tmp 4] = true := by kernel_rfl
theorem SQ_laws_markEntryS : SQOf PP Tryz.f67 42 [.tmp 4] q67 F_laws_markEntryS := fun ni no hs hn hni hno h => callsH_of_run ni no Tryz.func67 k67 hs hn hni hno (fun u => h u _ (fun _ h => h))

def q68r0 := [gV 49 1, gO 4 (.asg true (.t 49))]
def q68r1 := [gV 10 5, gO 11 (.bin .add (.t 10) (xI 1)), gO 5 (.asg true (.t 11))]
def q68r2 := [gV 47 1, gO 48 (.bin .add (.t 47) (xI 1)), gO 1 (.asg true (.t 48))]
def q68r3 := [gO 4 (.asg false (.c (.int .i64 (-1))))]
def q68r4 := [gV 40 0, gV 41 5, gO 42 (.idx 4 (.t 40) (.t 41)), gO 43 (.fld (.t 42) 3), gO 44 (.ld (.t 43)), gV 45 1, gO 46 (.bin .neq (.t 44) (.t 45))]
def q68r5 := [gV 38 1, gO 39 (.bin .add (.t 38) (xI 1)), gO 1 (.asg true (.t 39))]
def q68r6 := [gO 4 (.asg false (.c (.int .i64 (-1))))]
def q68r7 := [gV 31 0, gV 32 5, gO 33 (.idx 4 (.t 31) (.t 32)), gO 34 (.fld (.t 33) 2), gO 35 (.ld (.t 34)), gV 36 1, gO 37 (.bin .neq (.t 35) (.t 36))]
def q68r8 := [gV 29 1, gO 30 (.bin .add (.t 29) (xI 1)), gO 1 (.asg true (.t 30))]
def q68r9 := [gO 4 (.asg false (.c (.int .i64 (-1))))]
def q68r10 := [gV 22 0, gV 23 5, gO 24 (.idx 4 (.t 22) (.t 23)), gO 25 (.fld (.t 24) 1), gO 26 (.ld (.t 25)), gV 27 1, gO 28 (.bin .neq (.t 26) (.t 27))]
def q68r11 := [gV 20 1, gO 21 (.bin .add (.t 20) (xI 1)), gO 1 (.asg true (.t 21))]
def q68r12 := [gO 4 (.asg false (.c (.int .i64 (-1))))]
def q68r13 := [gV 12 0, gV 13 5, gO 14 (.idx 4 (.t 12) (.t 13)), gO 15 (.fld (.t 14) 0), gO 16 (.ld (.t 15)), gV 17 1, gO 18 (.call F_laws_markText [.t 17]), gO 19 (.bin .neq (.t 16) (.t 18))]
def q68r14 := [gV 6 5, gV 7 0, gO 8 (.len (.t 7)), gO 9 (.bin .lss (.t 6) (.t 8))]
def q68b0 : CC := .seq (.seq (.reg none q68r14 [0, 1, 5, 9]) (.cnd (.t 9) (.skip) (.exit 0))) (.seq (.blk 1 (.seq (.seq (.reg (some (8, [[], [], [0, 1], [0, 1, 2], [0, 1, 2, 3], [], [5], [0, 1, 2, 3, 4, 5, 6]])) q68r13 [0, 1, 5, 19]) (.cnd (.t 19) (.seq (.reg none q68r12 [4]) (.ret)) (.skip))) (.seq (.reg none q68r11 [0, 1, 5]) (.seq (.seq (.reg none q68r10 [0, 1, 5, 28]) (.cnd (.t 28) (.seq (.reg none q68r9 [4]) (.ret)) (.skip))) (.seq (.reg none q68r8 [0, 1, 5]) (.seq (.seq (.reg none q68r7 [0, 1, 5, 37]) (.cnd (.t 37) (.seq (.reg none q68r6 [4]) (.ret)) (.skip))) (.seq (.reg none q68r5 [0, 1, 5]) (.seq (.seq (.reg none q68r4 [0, 1, 5, 46]) (.cnd (.t 46) (.seq (.reg none q68r3 [4]) (.ret)) (.skip))) (.reg none q68r2 [0, 1, 5]))))))))) (.reg none q68r1 [0, 1, 5]))
def q68r15 := [gO 5 (.asg false (xI 0))]
def q68r16 := [gO 4 (.asg false (xI 0))]
def q68 : CC := .seq (.reg none q68r16 [0, 1]) (.seq (.seq (.reg none q68r15 [0, 1, 5]) (.blk 0 (.loop q68b0 [0, 1, 5]))) (.seq (.reg none q68r0 [4]) (.ret)))
abbrev L_laws_heldListedS_0 (P : Program) (E : Env) (r : List RV) : Prop := Run P [.tmp 4] (.code q68b0 :: .lp q68b0 [0, 1, 5] :: [.blk 0, .code (.seq (.reg none q68r0 [4]) (.ret))]) E r
theorem k68 : chkF PP Tryz.f68 q68 [.tmp 4] = true := by kernel_rfl
theorem S_laws_heldListedS : SOf PP Tryz.f68 50 [.tmp 4] q68 F_laws_heldListedS := fun hs hn h => callsOK Tryz.func68 k68 hs hn h

def q69r0 := [gV 31 1, gO 4 (.asg true (.t 31))]
def q69r1 := [gV 10 5, gO 11 (.bin .add (.t 10) (xI 1)), gO 5 (.asg true (.t 11))]
def q69r2 := [gV 29 1, gO 30 (.bin .add (.t 29) (xI 1)), gO 1 (.asg true (.t 30))]
def q69r3 := [gO 4 (.asg false (.c (.int .i64 (-1))))]
def q69r4 := [gV 22 0, gV 23 5, gO 24 (.idx 2 (.t 22) (.t 23)), gO 25 (.fld (.t 24) 1), gO 26 (.ld (.t 25)), gV 27 1, gO 28 (.bin .neq (.t 26) (.t 27))]
def q69r5 := [gV 20 1, gO 21 (.bin .add (.t 20) (xI 1)), gO 1 (.asg true (.t 21))]
def q69r6 := [gO 4 (.asg false (.c (.int .i64 (-1))))]
def q69r7 := [gV 12 0, gV 13 5, gO 14 (.idx 2 (.t 12) (.t 13)), gO 15 (.fld (.t 14) 0), gO 16 (.ld (.t 15)), gV 17 1, gO 18 (.call F_laws_markText [.t 17]), gO 19 (.bin .neq (.t 16) (.t 18))]
def q69r8 := [gV 6 5, gV 7 0, gO 8 (.len (.t 7)), gO 9 (.bin .lss (.t 6) (.t 8))]
def q69b0 : CC := .seq (.seq (.reg none q69r8 [0, 1, 5, 9]) (.cnd (.t 9) (.skip) (.exit 0))) (.seq (.blk 1 (.seq (.seq (.reg (some (8, [[], [], [0, 1], [0, 1, 2], [0, 1, 2, 3], [], [5], [0, 1, 2, 3, 4, 5, 6]])) q69r7 [0, 1, 5, 19]) (.cnd (.t 19) (.seq (.reg none q69r6 [4]) (.ret)) (.skip))) (.seq (.reg none q69r5 [0, 1, 5]) (.seq (.seq (.reg none q69r4 [0, 1, 5, 28]) (.cnd (.t 28) (.seq (.reg none q69r3 [4]) (.ret)) (.skip))) (.reg none q69r2 [0, 1, 5]))))) (.reg none q69r1 [0, 1, 5]))
def q69r9 := [gO 5 (.asg false (xI 0))]
def q69r10 := [gO 4 (.asg false (xI 0))]
def q69 : CC := .seq (.reg none q69r10 [0, 1]) (.seq (.seq (.reg none q69r9 [0, 1, 5]) (.blk 0 (.loop q69b0 [0, 1, 5]))) (.seq (.reg none q69r0 [4]) (.ret)))
abbrev L_laws_heldMeaningS_0 (P : Program) (E : Env) (r : List RV) : Prop := Run P [.tmp 4] (.code q69b0 :: .lp q69b0 [0, 1, 5] :: [.blk 0, .code (.seq (.reg none q69r0 [4]) (.ret))]) E r
theorem k69 : chkF PP Tryz.f69 q69 [.tmp 4] = true := by kernel_rfl
theorem S_laws_heldMeaningS : SOf PP Tryz.f69 32 [.tmp 4] q69 F_laws_heldMeaningS := fun hs hn h => callsOK Tryz.func69 k69 hs hn h

def q70r0 := [gV 11 1, gO 4 (.asg true (.t 11))]
def q70r1 := [gO 4 (.asg false (.c (.int .i64 (-1))))]
def q70r2 := [gV 9 1, gO 10 (.bin .lss (.t 9) (xI 0))]
def q70r3 := [gO 5 (.fld (.t 2) 4), gO 6 (.ld (.t 5)), gV 7 1, gO 8 (.call F_laws_heldClueS [.t 6, .t 7]), gO 1 (.asg true (.t 8))]
def q70r4 := [gO 2 (.box (.t 0)), gO 4 (.asg false (xI 0))]
def q70 : CC := .seq (.reg none q70r4 [1, 2]) (.seq (.reg none q70r3 [1]) (.seq (.seq (.reg none q70r2 [1, 10]) (.cnd (.t 10) (.seq (.reg none q70r1 [4]) (.ret)) (.skip))) (.seq (.reg none q70r0 [4]) (.ret))))
theorem k70 : chkF PP Tryz.f70 q70 [.tmp 4] = true := by kernel_rfl
theorem S_laws_heldDraft : SOf PP Tryz.f70 12 [.tmp 4] q70 F_laws_heldDraft := fun hs hn h => callsOK Tryz.func70 k70 hs hn h

def q71r0 := [gV 113 1, gO 4 (.asg true (.t 113))]
def q71r1 := [gV 10 5, gO 11 (.bin .add (.t 10) (xI 1)), gO 5 (.asg true (.t 11))]
def q71r2 := [gV 111 1, gO 112 (.bin .add (.t 111) (xI 1)), gO 1 (.asg true (.t 112))]
def q71r3 := [gO 4 (.asg false (.c (.int .i64 (-1))))]
def q71r4 := [gV 104 0, gV 105 5, gO 106 (.idx 10 (.t 104) (.t 105)), gO 107 (.fld (.t 106) 9), gO 108 (.ld (.t 107)), gV 109 1, gO 110 (.bin .neq (.t 108) (.t 109))]
def q71r5 := [gV 102 1, gO 103 (.bin .add (.t 102) (xI 1)), gO 1 (.asg true (.t 103))]
def q71r6 := [gO 4 (.asg false (.c (.int .i64 (-1))))]
def q71r7 := [gV 95 0, gV 96 5, gO 97 (.idx 10 (.t 95) (.t 96)), gO 98 (.fld (.t 97) 8), gO 99 (.ld (.t 98)), gV 100 1, gO 101 (.bin .neq (.t 99) (.t 100))]
def q71r8 := [gV 93 1, gO 94 (.bin .add (.t 93) (xI 1)), gO 1 (.asg true (.t 94))]
def q71r9 := [gO 4 (.asg false (.c (.int .i64 (-1))))]
def q71r10 := [gV 85 0, gV 86 5, gO 87 (.idx 10 (.t 85) (.t 86)), gO 88 (.fld (.t 87) 7), gO 89 (.ld (.t 88)), gV 90 1, gO 91 (.call F_laws_markText [.t 90]), gO 92 (.bin .neq (.t 89) (.t 91))]
def q71r11 := [gV 83 1, gO 84 (.bin .add (.t 83) (xI 1)), gO 1 (.asg true (.t 84))]
def q71r12 := [gO 4 (.asg false (.c (.int .i64 (-1))))]
def q71r13 := [gV 75 0, gV 76 5, gO 77 (.idx 10 (.t 75) (.t 76)), gO 78 (.fld (.t 77) 1), gO 79 (.fld (.t 78) 5), gO 80 (.ld (.t 79)), gV 81 1, gO 82 (.bin .neq (.t 80) (.t 81))]
def q71r14 := [gO 4 (.asg false (.c (.int .i64 (-1))))]
def q71r15 := [gV 73 1, gO 74 (.bin .lss (.t 73) (xI 0))]
def q71r16 := [gV 65 0, gV 66 5, gO 67 (.idx 10 (.t 65) (.t 66)), gO 68 (.fld (.t 67) 1), gO 69 (.fld (.t 68) 4), gO 70 (.ld (.t 69)), gV 71 1, gO 72 (.call F_laws_heldIntS [.t 70, .t 71]), gO 1 (.asg true (.t 72))]
def q71r17 := [gO 4 (.asg false (.c (.int .i64 (-1))))]
def q71r18 := [gV 63 1, gO 64 (.bin .lss (.t 63) (xI 0))]
def q71r19 := [gV 55 0, gV 56 5, gO 57 (.idx 10 (.t 55) (.t 56)), gO 58 (.fld (.t 57) 1), gO 59 (.fld (.t 58) 3), gO 60 (.ld (.t 59)), gV 61 1, gO 62 (.call F_laws_heldClueS [.t 60, .t 61]), gO 1 (.asg true (.t 62))]
def q71r20 := [gV 53 1, gO 54 (.bin .add (.t 53) (xI 1)), gO 1 (.asg true (.t 54))]
def q71r21 := [gO 4 (.asg false (.c (.int .i64 (-1))))]
def q71r22 := [gV 43 0, gV 44 5, gO 45 (.idx 10 (.t 43) (.t 44)), gO 46 (.fld (.t 45) 1), gO 47 (.fld (.t 46) 0), gO 48 (.fld (.t 47) 2), gO 49 (.ld (.t 48)), gV 50 1, gO 51 (.call F_laws_markText [.t 50]), gO 52 (.bin .neq (.t 49) (.t 51))]
def q71r23 := [gV 41 1, gO 42 (.bin .add (.t 41) (xI 1)), gO 1 (.asg true (.t 42))]
def q71r24 := [gO 4 (.asg false (.c (.int .i64 (-1))))]
def q71r25 := [gV 32 0, gV 33 5, gO 34 (.idx 10 (.t 32) (.t 33)), gO 35 (.fld (.t 34) 1), gO 36 (.fld (.t 35) 0), gO 37 (.fld (.t 36) 1), gO 38 (.ld (.t 37)), gV 39 1, gO 40 (.bin .neq (.t 38) (.t 39))]
def q71r26 := [gV 30 1, gO 31 (.bin .add (.t 30) (xI 1)), gO 1 (.asg true (.t 31))]
def q71r27 := [gO 4 (.asg false (.c (.int .i64 (-1))))]
def q71r28 := [gV 21 0, gV 22 5, gO 23 (.idx 10 (.t 21) (.t 22)), gO 24 (.fld (.t 23) 1), gO 25 (.fld (.t 24) 0), gO 26 (.fld (.t 25) 0), gO 27 (.ld (.t 26)), gV 28 1, gO 29 (.bin .neq (.t 27) (.t 28))]
def q71r29 := [gV 19 1, gO 20 (.bin .add (.t 19) (xI 1)), gO 1 (.asg true (.t 20))]
def q71r30 := [gO 4 (.asg false (.c (.int .i64 (-1))))]
def q71r31 := [gV 12 0, gV 13 5, gO 14 (.idx 10 (.t 12) (.t 13)), gO 15 (.fld (.t 14) 0), gO 16 (.ld (.t 15)), gV 17 1, gO 18 (.bin .neq (.t 16) (.t 17))]
def q71r32 := [gV 6 5, gV 7 0, gO 8 (.len (.t 7)), gO 9 (.bin .lss (.t 6) (.t 8))]
def q71b0 : CC := .seq (.seq (.reg none q71r32 [0, 1, 5, 9]) (.cnd (.t 9) (.skip) (.exit 0))) (.seq (.blk 1 (.seq (.seq (.reg none q71r31 [0, 1, 5, 18]) (.cnd (.t 18) (.seq (.reg none q71r30 [4]) (.ret)) (.skip))) (.seq (.reg none q71r29 [0, 1, 5]) (.seq (.seq (.reg none q71r28 [0, 1, 5, 29]) (.cnd (.t 29) (.seq (.reg none q71r27 [4]) (.ret)) (.skip))) (.seq (.reg none q71r26 [0, 1, 5]) (.seq (.seq (.reg none q71r25 [0, 1, 5, 40]) (.cnd (.t 40) (.seq (.reg none q71r24 [4]) (.ret)) (.skip))) (.seq (.reg none q71r23 [0, 1, 5]) (.seq (.seq (.reg (some (10, [[], [], [0, 1], [0, 1, 2], [0, 1, 2, 3], [0, 1, 2, 3, 4], [0, 1, 2, 3, 4, 5], [], [7], [0, 1, 2, 3, 4, 5, 6, 7, 8]])) q71r22 [0, 1, 5, 52]) (.cnd (.t 52) (.seq (.reg none q71r21 [4]) (.ret)) (.skip))) (.seq (.reg none q71r20 [0, 1, 5]) (.seq (.reg none q71r19 [0, 1, 5]) (.seq (.seq (.reg none q71r18 [0, 1, 5, 64]) (.cnd (.t 64) (.seq (.reg none q71r17 [4]) (.ret)) (.skip))) (.seq (.reg none q71r16 [0, 1, 5]) (.seq (.seq (.reg none q71r15 [0, 1, 5, 74]) (.cnd (.t 74) (.seq (.reg none q71r14 [4]) (.ret)) (.skip))) (.seq (.seq (.reg none q71r13 [0, 1, 5, 82]) (.cnd (.t 82) (.seq (.reg none q71r12 [4]) (.ret)) (.skip))) (.seq (.reg none q71r11 [0, 1, 5]) (.seq (.seq (.reg (some (8, [[], [], [0, 1], [0, 1, 2], [0, 1, 2, 3], [], [5], [0, 1, 2, 3, 4, 5, 6]])) q71r10 [0, 1, 5, 92]) (.cnd (.t 92) (.seq (.reg none q71r9 [4]) (.ret)) (.skip))) (.seq (.reg none q71r8 [0, 1, 5]) (.seq (.seq (.reg none q71r7 [0, 1, 5, 101]) (.cnd (.t 101) (.seq (.reg none q71r6 [4]) (.ret)) (.skip))) (.seq (.reg none q71r5 [0, 1, 5]) (.seq (.seq (.reg none q71r4 [0, 1, 5, 110]) (.cnd (.t 110) (.seq (.reg none q71r3 [4]) (.ret)) (.skip))) (.reg none q71r2 [0, 1, 5]))))))))))))))))))))) (.reg none q71r1 [0, 1, 5]))
def q71r33 := [gO 5 (.asg false (xI 0))]
def q71r34 := [gO 4 (.asg false (xI 0))]
def q71 : CC := .seq (.reg none q71r34 [0, 1]) (.seq (.seq (.reg none q71r33 [0, 1, 5]) (.blk 0 (.loop q71b0 [0, 1, 5]))) (.seq (.reg none q71r0 [4]) (.ret)))
abbrev L_laws_heldIssueS_0 (P : Program) (E : Env) (r : List RV) : Prop := Run P [.tmp 4] (.code q71b0 :: .lp q71b0 [0, 1, 5] :: [.blk 0, .code (.seq (.reg none q71r0 [4]) (.ret))]) E r
theorem k71 : chkF PP Tryz.f71 q71 [.tmp 4] = true := by kernel_rfl
theorem S_laws_heldIssueS : SOf PP Tryz.f71 114 [.tmp 4] q71 F_laws_heldIssueS := fun hs hn h => callsOK Tryz.func71 k71 hs hn h

def q72r0 := [gV 31 1, gO 4 (.asg true (.t 31))]
def q72r1 := [gV 10 5, gO 11 (.bin .add (.t 10) (xI 1)), gO 5 (.asg true (.t 11))]
def q72r2 := [gV 29 1, gO 30 (.bin .add (.t 29) (xI 1)), gO 1 (.asg true (.t 30))]
def q72r3 := [gO 4 (.asg false (.c (.int .i64 (-1))))]
def q72r4 := [gV 22 0, gV 23 5, gO 24 (.idx 2 (.t 22) (.t 23)), gO 25 (.fld (.t 24) 1), gO 26 (.ld (.t 25)), gV 27 1, gO 28 (.bin .neq (.t 26) (.t 27))]
def q72r5 := [gV 20 1, gO 21 (.bin .add (.t 20) (xI 1)), gO 1 (.asg true (.t 21))]
def q72r6 := [gO 4 (.asg false (.c (.int .i64 (-1))))]
def q72r7 := [gV 12 0, gV 13 5, gO 14 (.idx 2 (.t 12) (.t 13)), gO 15 (.fld (.t 14) 0), gO 16 (.ld (.t 15)), gV 17 1, gO 18 (.call F_laws_markText [.t 17]), gO 19 (.bin .neq (.t 16) (.t 18))]
def q72r8 := [gV 6 5, gV 7 0, gO 8 (.len (.t 7)), gO 9 (.bin .lss (.t 6) (.t 8))]
def q72b0 : CC := .seq (.seq (.reg none q72r8 [0, 1, 5, 9]) (.cnd (.t 9) (.skip) (.exit 0))) (.seq (.blk 1 (.seq (.seq (.reg (some (8, [[], [], [0, 1], [0, 1, 2], [0, 1, 2, 3], [], [5], [0, 1, 2, 3, 4, 5, 6]])) q72r7 [0, 1, 5, 19]) (.cnd (.t 19) (.seq (.reg none q72r6 [4]) (.ret)) (.skip))) (.seq (.reg none q72r5 [0, 1, 5]) (.seq (.seq (.reg none q72r4 [0, 1, 5, 28]) (.cnd (.t 28) (.seq (.reg none q72r3 [4]) (.ret)) (.skip))) (.reg none q72r2 [0, 1, 5]))))) (.reg none q72r1 [0, 1, 5]))
def q72r9 := [gO 5 (.asg false (xI 0))]
def q72r10 := [gO 4 (.asg false (xI 0))]
def q72 : CC := .seq (.reg none q72r10 [0, 1]) (.seq (.seq (.reg none q72r9 [0, 1, 5]) (.blk 0 (.loop q72b0 [0, 1, 5]))) (.seq (.reg none q72r0 [4]) (.ret)))
abbrev L_laws_heldUsedS_0 (P : Program) (E : Env) (r : List RV) : Prop := Run P [.tmp 4] (.code q72b0 :: .lp q72b0 [0, 1, 5] :: [.blk 0, .code (.seq (.reg none q72r0 [4]) (.ret))]) E r
theorem k72 : chkF PP Tryz.f72 q72 [.tmp 4] = true := by kernel_rfl
theorem S_laws_heldUsedS : SOf PP Tryz.f72 32 [.tmp 4] q72 F_laws_heldUsedS := fun hs hn h => callsOK Tryz.func72 k72 hs hn h

def q73r0 := [gV 59 1, gO 4 (.asg true (.t 59))]
def q73r1 := [gV 10 5, gO 11 (.bin .add (.t 10) (xI 1)), gO 5 (.asg true (.t 11))]
def q73r2 := [gV 57 1, gO 58 (.bin .add (.t 57) (xI 1)), gO 1 (.asg true (.t 58))]
def q73r3 := [gO 4 (.asg false (.c (.int .i64 (-1))))]
def q73r4 := [gV 50 0, gV 51 5, gO 52 (.idx 5 (.t 50) (.t 51)), gO 53 (.fld (.t 52) 4), gO 54 (.ld (.t 53)), gV 55 1, gO 56 (.bin .neq (.t 54) (.t 55))]
def q73r5 := [gO 4 (.asg false (.c (.int .i64 (-1))))]
def q73r6 := [gV 48 1, gO 49 (.bin .lss (.t 48) (xI 0))]
def q73r7 := [gV 40 0, gV 41 5, gO 42 (.idx 5 (.t 40) (.t 41)), gO 43 (.fld (.t 42) 2), gO 44 (.fld (.t 43) 1), gO 45 (.ld (.t 44)), gV 46 1, gO 47 (.call F_laws_heldStepS [.t 45, .t 46]), gO 1 (.asg true (.t 47))]
def q73r8 := [gV 38 1, gO 39 (.bin .add (.t 38) (xI 1)), gO 1 (.asg true (.t 39))]
def q73r9 := [gO 4 (.asg false (.c (.int .i64 (-1))))]
def q73r10 := [gV 30 0, gV 31 5, gO 32 (.idx 5 (.t 30) (.t 31)), gO 33 (.fld (.t 32) 2), gO 34 (.fld (.t 33) 0), gO 35 (.ld (.t 34)), gV 36 1, gO 37 (.bin .neq (.t 35) (.t 36))]
def q73r11 := [gV 28 1, gO 29 (.bin .add (.t 28) (xI 1)), gO 1 (.asg true (.t 29))]
def q73r12 := [gO 4 (.asg false (.c (.int .i64 (-1))))]
def q73r13 := [gV 21 0, gV 22 5, gO 23 (.idx 5 (.t 21) (.t 22)), gO 24 (.fld (.t 23) 1), gO 25 (.ld (.t 24)), gV 26 1, gO 27 (.bin .neq (.t 25) (.t 26))]
def q73r14 := [gV 19 1, gO 20 (.bin .add (.t 19) (xI 1)), gO 1 (.asg true (.t 20))]
def q73r15 := [gO 4 (.asg false (.c (.int .i64 (-1))))]
def q73r16 := [gV 12 0, gV 13 5, gO 14 (.idx 5 (.t 12) (.t 13)), gO 15 (.fld (.t 14) 0), gO 16 (.ld (.t 15)), gV 17 1, gO 18 (.bin .neq (.t 16) (.t 17))]
def q73r17 := [gV 6 5, gV 7 0, gO 8 (.len (.t 7)), gO 9 (.bin .lss (.t 6) (.t 8))]
def q73b0 : CC := .seq (.seq (.reg none q73r17 [0, 1, 5, 9]) (.cnd (.t 9) (.skip) (.exit 0))) (.seq (.blk 1 (.seq (.seq (.reg none q73r16 [0, 1, 5, 18]) (.cnd (.t 18) (.seq (.reg none q73r15 [4]) (.ret)) (.skip))) (.seq (.reg none q73r14 [0, 1, 5]) (.seq (.seq (.reg none q73r13 [0, 1, 5, 27]) (.cnd (.t 27) (.seq (.reg none q73r12 [4]) (.ret)) (.skip))) (.seq (.reg none q73r11 [0, 1, 5]) (.seq (.seq (.reg none q73r10 [0, 1, 5, 37]) (.cnd (.t 37) (.seq (.reg none q73r9 [4]) (.ret)) (.skip))) (.seq (.reg none q73r8 [0, 1, 5]) (.seq (.reg none q73r7 [0, 1, 5]) (.seq (.seq (.reg none q73r6 [0, 1, 5, 49]) (.cnd (.t 49) (.seq (.reg none q73r5 [4]) (.ret)) (.skip))) (.seq (.seq (.reg none q73r4 [0, 1, 5, 56]) (.cnd (.t 56) (.seq (.reg none q73r3 [4]) (.ret)) (.skip))) (.reg none q73r2 [0, 1, 5]))))))))))) (.reg none q73r1 [0, 1, 5]))
def q73r18 := [gO 5 (.asg false (xI 0))]
def q73r19 := [gO 4 (.asg false (xI 0))]
def q73 : CC := .seq (.reg none q73r19 [0, 1]) (.seq (.seq (.reg none q73r18 [0, 1, 5]) (.blk 0 (.loop q73b0 [0, 1, 5]))) (.seq (.reg none q73r0 [4]) (.ret)))
abbrev L_laws_heldCorrectionS_0 (P : Program) (E : Env) (r : List RV) : Prop := Run P [.tmp 4] (.code q73b0 :: .lp q73b0 [0, 1, 5] :: [.blk 0, .code (.seq (.reg none q73r0 [4]) (.ret))]) E r
theorem k73 : chkF PP Tryz.f73 q73 [.tmp 4] = true := by kernel_rfl
theorem S_laws_heldCorrectionS : SOf PP Tryz.f73 60 [.tmp 4] q73 F_laws_heldCorrectionS := fun hs hn h => callsOK Tryz.func73 k73 hs hn h

def q74r0 := [gV 49 1, gO 4 (.asg true (.t 49))]
def q74r1 := [gV 10 5, gO 11 (.bin .add (.t 10) (xI 1)), gO 5 (.asg true (.t 11))]
def q74r2 := [gV 47 1, gO 48 (.bin .add (.t 47) (xI 1)), gO 1 (.asg true (.t 48))]
def q74r3 := [gO 4 (.asg false (.c (.int .i64 (-1))))]
def q74r4 := [gV 39 0, gV 40 5, gO 41 (.idx 4 (.t 39) (.t 40)), gO 42 (.fld (.t 41) 3), gO 43 (.ld (.t 42)), gV 44 1, gO 45 (.call F_laws_markText [.t 44]), gO 46 (.bin .neq (.t 43) (.t 45))]
def q74r5 := [gV 37 1, gO 38 (.bin .add (.t 37) (xI 1)), gO 1 (.asg true (.t 38))]
def q74r6 := [gO 4 (.asg false (.c (.int .i64 (-1))))]
def q74r7 := [gV 30 0, gV 31 5, gO 32 (.idx 4 (.t 30) (.t 31)), gO 33 (.fld (.t 32) 2), gO 34 (.ld (.t 33)), gV 35 1, gO 36 (.bin .neq (.t 34) (.t 35))]
def q74r8 := [gV 28 1, gO 29 (.bin .add (.t 28) (xI 1)), gO 1 (.asg true (.t 29))]
def q74r9 := [gO 4 (.asg false (.c (.int .i64 (-1))))]
def q74r10 := [gV 21 0, gV 22 5, gO 23 (.idx 4 (.t 21) (.t 22)), gO 24 (.fld (.t 23) 1), gO 25 (.ld (.t 24)), gV 26 1, gO 27 (.bin .neq (.t 25) (.t 26))]
def q74r11 := [gV 19 1, gO 20 (.bin .add (.t 19) (xI 1)), gO 1 (.asg true (.t 20))]
def q74r12 := [gO 4 (.asg false (.c (.int .i64 (-1))))]
def q74r13 := [gV 12 0, gV 13 5, gO 14 (.idx 4 (.t 12) (.t 13)), gO 15 (.fld (.t 14) 0), gO 16 (.ld (.t 15)), gV 17 1, gO 18 (.bin .neq (.t 16) (.t 17))]
def q74r14 := [gV 6 5, gV 7 0, gO 8 (.len (.t 7)), gO 9 (.bin .lss (.t 6) (.t 8))]
def q74b0 : CC := .seq (.seq (.reg none q74r14 [0, 1, 5, 9]) (.cnd (.t 9) (.skip) (.exit 0))) (.seq (.blk 1 (.seq (.seq (.reg none q74r13 [0, 1, 5, 18]) (.cnd (.t 18) (.seq (.reg none q74r12 [4]) (.ret)) (.skip))) (.seq (.reg none q74r11 [0, 1, 5]) (.seq (.seq (.reg none q74r10 [0, 1, 5, 27]) (.cnd (.t 27) (.seq (.reg none q74r9 [4]) (.ret)) (.skip))) (.seq (.reg none q74r8 [0, 1, 5]) (.seq (.seq (.reg none q74r7 [0, 1, 5, 36]) (.cnd (.t 36) (.seq (.reg none q74r6 [4]) (.ret)) (.skip))) (.seq (.reg none q74r5 [0, 1, 5]) (.seq (.seq (.reg (some (8, [[], [], [0, 1], [0, 1, 2], [0, 1, 2, 3], [], [5], [0, 1, 2, 3, 4, 5, 6]])) q74r4 [0, 1, 5, 46]) (.cnd (.t 46) (.seq (.reg none q74r3 [4]) (.ret)) (.skip))) (.reg none q74r2 [0, 1, 5]))))))))) (.reg none q74r1 [0, 1, 5]))
def q74r15 := [gO 5 (.asg false (xI 0))]
def q74r16 := [gO 4 (.asg false (xI 0))]
def q74 : CC := .seq (.reg none q74r16 [0, 1]) (.seq (.seq (.reg none q74r15 [0, 1, 5]) (.blk 0 (.loop q74b0 [0, 1, 5]))) (.seq (.reg none q74r0 [4]) (.ret)))
abbrev L_laws_heldEntryS_0 (P : Program) (E : Env) (r : List RV) : Prop := Run P [.tmp 4] (.code q74b0 :: .lp q74b0 [0, 1, 5] :: [.blk 0, .code (.seq (.reg none q74r0 [4]) (.ret))]) E r
theorem k74 : chkF PP Tryz.f74 q74 [.tmp 4] = true := by kernel_rfl
theorem S_laws_heldEntryS : SOf PP Tryz.f74 50 [.tmp 4] q74 F_laws_heldEntryS := fun hs hn h => callsOK Tryz.func74 k74 hs hn h

def q75r0 := [gV 24 1, gO 4 (.asg true (.t 24))]
def q75r1 := [gO 4 (.asg false (.c (.int .i64 (-1))))]
def q75r2 := [gV 22 1, gO 23 (.bin .lss (.t 22) (xI 0))]
def q75r3 := [gO 18 (.fld (.t 2) 4), gO 19 (.ld (.t 18)), gV 20 1, gO 21 (.call F_laws_szClueS [.t 19, .t 20]), gO 1 (.asg true (.t 21))]
def q75r4 := [gO 4 (.asg false (.c (.int .i64 (-1))))]
def q75r5 := [gV 16 1, gO 17 (.bin .lss (.t 16) (xI 0))]
def q75r6 := [gV 11 1, gO 12 (.fld (.t 2) 3), gO 13 (.ld (.t 12)), gO 14 (.slen (.t 13)), gO 15 (.bin .sub (.t 11) (.t 14)), gO 1 (.asg true (.t 15))]
def q75r7 := [gO 4 (.asg false (.c (.int .i64 (-1))))]
def q75r8 := [gV 9 1, gO 10 (.bin .lss (.t 9) (xI 0))]
def q75r9 := [gO 5 (.fld (.t 2) 0), gO 6 (.lda 3 (.t 5)), gV 7 1, gO 8 (.call F_laws_szGrid [.t 6, .t 7]), gO 1 (.asg true (.t 8))]
def q75r10 := [gO 2 (.box (.t 0)), gO 4 (.asg false (xI 0))]
def q75 : CC := .seq (.reg none q75r10 [1, 2]) (.seq (.reg none q75r9 [1, 2]) (.seq (.seq (.reg none q75r8 [1, 2, 10]) (.cnd (.t 10) (.seq (.reg none q75r7 [4]) (.ret)) (.skip))) (.seq (.reg none q75r6 [1, 2]) (.seq (.seq (.reg none q75r5 [1, 2, 17]) (.cnd (.t 17) (.seq (.reg none q75r4 [4]) (.ret)) (.skip))) (.seq (.reg none q75r3 [1]) (.seq (.seq (.reg none q75r2 [1, 23]) (.cnd (.t 23) (.seq (.reg none q75r1 [4]) (.ret)) (.skip))) (.seq (.reg none q75r0 [4]) (.ret))))))))
theorem k75 : chkF PP Tryz.f75 q75 [.tmp 4] = true := by kernel_rfl
theorem S_laws_szDraft : SOf PP Tryz.f75 25 [.tmp 4] q75 F_laws_szDraft := fun hs hn h => callsOK Tryz.func75 k75 hs hn h

def q76r0 := [gV 26 1, gO 4 (.asg true (.t 26))]
def q76r1 := [gV 16 5, gO 17 (.bin .add (.t 16) (xI 1)), gO 5 (.asg true (.t 17))]
def q76r2 := [gO 4 (.asg false (.c (.int .i64 (-1))))]
def q76r3 := [gV 24 1, gO 25 (.bin .lss (.t 24) (xI 0))]
def q76r4 := [gV 18 0, gV 19 5, gO 20 (.idx 10 (.t 18) (.t 19)), gO 21 (.lda 10 (.t 20)), gV 22 1, gO 23 (.call F_laws_szIssue [.t 21, .t 22]), gO 1 (.asg true (.t 23))]
def q76r5 := [gV 12 5, gV 13 0, gO 14 (.len (.t 13)), gO 15 (.bin .lss (.t 12) (.t 14))]
def q76b0 : CC := .seq (.seq (.reg none q76r5 [0, 1, 5, 15]) (.cnd (.t 15) (.skip) (.exit 0))) (.seq (.blk 1 (.seq (.reg none q76r4 [0, 1, 5]) (.seq (.reg none q76r3 [0, 1, 5, 25]) (.cnd (.t 25) (.seq (.reg none q76r2 [4]) (.ret)) (.skip))))) (.reg none q76r1 [0, 1, 5]))
def q76r6 := [gO 5 (.asg false (xI 0))]
def q76r7 := [gO 4 (.asg false (.c (.int .i64 (-1))))]
def q76r8 := [gV 10 1, gO 11 (.bin .lss (.t 10) (xI 0))]
def q76r9 := [gV 6 1, gV 7 0, gO 8 (.len (.t 7)), gO 9 (.bin .sub (.t 6) (.t 8)), gO 1 (.asg true (.t 9))]
def q76r10 := [gO 4 (.asg false (xI 0))]
def q76 : CC := .seq (.reg none q76r10 [0, 1]) (.seq (.reg none q76r9 [0, 1]) (.seq (.seq (.reg none q76r8 [0, 1, 11]) (.cnd (.t 11) (.seq (.reg none q76r7 [4]) (.ret)) (.skip))) (.seq (.seq (.reg none q76r6 [0, 1, 5]) (.blk 0 (.loop q76b0 [0, 1, 5]))) (.seq (.reg none q76r0 [4]) (.ret)))))
abbrev L_laws_szIssueS_0 (P : Program) (E : Env) (r : List RV) : Prop := Run P [.tmp 4] (.code q76b0 :: .lp q76b0 [0, 1, 5] :: [.blk 0, .code (.seq (.reg none q76r0 [4]) (.ret))]) E r
theorem k76 : chkF PP Tryz.f76 q76 [.tmp 4] = true := by kernel_rfl
theorem S_laws_szIssueS : SOf PP Tryz.f76 27 [.tmp 4] q76 F_laws_szIssueS := fun hs hn h => callsOK Tryz.func76 k76 hs hn h

def q77r0 := [gV 26 1, gO 4 (.asg true (.t 26))]
def q77r1 := [gV 16 5, gO 17 (.bin .add (.t 16) (xI 1)), gO 5 (.asg true (.t 17))]
def q77r2 := [gO 4 (.asg false (.c (.int .i64 (-1))))]
def q77r3 := [gV 24 1, gO 25 (.bin .lss (.t 24) (xI 0))]
def q77r4 := [gV 18 0, gV 19 5, gO 20 (.idx 2 (.t 18) (.t 19)), gO 21 (.lda 2 (.t 20)), gV 22 1, gO 23 (.call F_laws_szUsed [.t 21, .t 22]), gO 1 (.asg true (.t 23))]
def q77r5 := [gV 12 5, gV 13 0, gO 14 (.len (.t 13)), gO 15 (.bin .lss (.t 12) (.t 14))]
def q77b0 : CC := .seq (.seq (.reg none q77r5 [0, 1, 5, 15]) (.cnd (.t 15) (.skip) (.exit 0))) (.seq (.blk 1 (.seq (.reg none q77r4 [0, 1, 5]) (.seq (.reg none q77r3 [0, 1, 5, 25]) (.cnd (.t 25) (.seq (.reg none q77r2 [4]) (.ret)) (.skip))))) (.reg none q77r1 [0, 1, 5]))
def q77r6 := [gO 5 (.asg false (xI 0))]
def q77r7 := [gO 4 (.asg false (.c (.int .i64 (-1))))]
def q77r8 := [gV 10 1, gO 11 (.bin .lss (.t 10) (xI 0))]
def q77r9 := [gV 6 1, gV 7 0, gO 8 (.len (.t 7)), gO 9 (.bin .sub (.t 6) (.t 8)), gO 1 (.asg true (.t 9))]
def q77r10 := [gO 4 (.asg false (xI 0))]
def q77 : CC := .seq (.reg none q77r10 [0, 1]) (.seq (.reg none q77r9 [0, 1]) (.seq (.seq (.reg none q77r8 [0, 1, 11]) (.cnd (.t 11) (.seq (.reg none q77r7 [4]) (.ret)) (.skip))) (.seq (.seq (.reg none q77r6 [0, 1, 5]) (.blk 0 (.loop q77b0 [0, 1, 5]))) (.seq (.reg none q77r0 [4]) (.ret)))))
abbrev L_laws_szUsedS_0 (P : Program) (E : Env) (r : List RV) : Prop := Run P [.tmp 4] (.code q77b0 :: .lp q77b0 [0, 1, 5] :: [.blk 0, .code (.seq (.reg none q77r0 [4]) (.ret))]) E r
theorem k77 : chkF PP Tryz.f77 q77 [.tmp 4] = true := by kernel_rfl
theorem S_laws_szUsedS : SOf PP Tryz.f77 27 [.tmp 4] q77 F_laws_szUsedS := fun hs hn h => callsOK Tryz.func77 k77 hs hn h

def q78r0 := [gV 26 1, gO 4 (.asg true (.t 26))]
def q78r1 := [gV 16 5, gO 17 (.bin .add (.t 16) (xI 1)), gO 5 (.asg true (.t 17))]
def q78r2 := [gO 4 (.asg false (.c (.int .i64 (-1))))]
def q78r3 := [gV 24 1, gO 25 (.bin .lss (.t 24) (xI 0))]
def q78r4 := [gV 18 0, gV 19 5, gO 20 (.idx 5 (.t 18) (.t 19)), gO 21 (.lda 5 (.t 20)), gV 22 1, gO 23 (.call F_laws_szCorrection [.t 21, .t 22]), gO 1 (.asg true (.t 23))]
def q78r5 := [gV 12 5, gV 13 0, gO 14 (.len (.t 13)), gO 15 (.bin .lss (.t 12) (.t 14))]
def q78b0 : CC := .seq (.seq (.reg none q78r5 [0, 1, 5, 15]) (.cnd (.t 15) (.skip) (.exit 0))) (.seq (.blk 1 (.seq (.reg none q78r4 [0, 1, 5]) (.seq (.reg none q78r3 [0, 1, 5, 25]) (.cnd (.t 25) (.seq (.reg none q78r2 [4]) (.ret)) (.skip))))) (.reg none q78r1 [0, 1, 5]))
def q78r6 := [gO 5 (.asg false (xI 0))]
def q78r7 := [gO 4 (.asg false (.c (.int .i64 (-1))))]
def q78r8 := [gV 10 1, gO 11 (.bin .lss (.t 10) (xI 0))]
def q78r9 := [gV 6 1, gV 7 0, gO 8 (.len (.t 7)), gO 9 (.bin .sub (.t 6) (.t 8)), gO 1 (.asg true (.t 9))]
def q78r10 := [gO 4 (.asg false (xI 0))]
def q78 : CC := .seq (.reg none q78r10 [0, 1]) (.seq (.reg none q78r9 [0, 1]) (.seq (.seq (.reg none q78r8 [0, 1, 11]) (.cnd (.t 11) (.seq (.reg none q78r7 [4]) (.ret)) (.skip))) (.seq (.seq (.reg none q78r6 [0, 1, 5]) (.blk 0 (.loop q78b0 [0, 1, 5]))) (.seq (.reg none q78r0 [4]) (.ret)))))
abbrev L_laws_szCorrectionS_0 (P : Program) (E : Env) (r : List RV) : Prop := Run P [.tmp 4] (.code q78b0 :: .lp q78b0 [0, 1, 5] :: [.blk 0, .code (.seq (.reg none q78r0 [4]) (.ret))]) E r
theorem k78 : chkF PP Tryz.f78 q78 [.tmp 4] = true := by kernel_rfl
theorem S_laws_szCorrectionS : SOf PP Tryz.f78 27 [.tmp 4] q78 F_laws_szCorrectionS := fun hs hn h => callsOK Tryz.func78 k78 hs hn h

def q79r0 := [gV 26 1, gO 4 (.asg true (.t 26))]
def q79r1 := [gV 16 5, gO 17 (.bin .add (.t 16) (xI 1)), gO 5 (.asg true (.t 17))]
def q79r2 := [gO 4 (.asg false (.c (.int .i64 (-1))))]
def q79r3 := [gV 24 1, gO 25 (.bin .lss (.t 24) (xI 0))]
def q79r4 := [gV 18 0, gV 19 5, gO 20 (.idx 4 (.t 18) (.t 19)), gO 21 (.lda 4 (.t 20)), gV 22 1, gO 23 (.call F_laws_szEntry [.t 21, .t 22]), gO 1 (.asg true (.t 23))]
def q79r5 := [gV 12 5, gV 13 0, gO 14 (.len (.t 13)), gO 15 (.bin .lss (.t 12) (.t 14))]
def q79b0 : CC := .seq (.seq (.reg none q79r5 [0, 1, 5, 15]) (.cnd (.t 15) (.skip) (.exit 0))) (.seq (.blk 1 (.seq (.reg none q79r4 [0, 1, 5]) (.seq (.reg none q79r3 [0, 1, 5, 25]) (.cnd (.t 25) (.seq (.reg none q79r2 [4]) (.ret)) (.skip))))) (.reg none q79r1 [0, 1, 5]))
def q79r6 := [gO 5 (.asg false (xI 0))]
def q79r7 := [gO 4 (.asg false (.c (.int .i64 (-1))))]
def q79r8 := [gV 10 1, gO 11 (.bin .lss (.t 10) (xI 0))]
def q79r9 := [gV 6 1, gV 7 0, gO 8 (.len (.t 7)), gO 9 (.bin .sub (.t 6) (.t 8)), gO 1 (.asg true (.t 9))]
def q79r10 := [gO 4 (.asg false (xI 0))]
def q79 : CC := .seq (.reg none q79r10 [0, 1]) (.seq (.reg none q79r9 [0, 1]) (.seq (.seq (.reg none q79r8 [0, 1, 11]) (.cnd (.t 11) (.seq (.reg none q79r7 [4]) (.ret)) (.skip))) (.seq (.seq (.reg none q79r6 [0, 1, 5]) (.blk 0 (.loop q79b0 [0, 1, 5]))) (.seq (.reg none q79r0 [4]) (.ret)))))
abbrev L_laws_szEntryS_0 (P : Program) (E : Env) (r : List RV) : Prop := Run P [.tmp 4] (.code q79b0 :: .lp q79b0 [0, 1, 5] :: [.blk 0, .code (.seq (.reg none q79r0 [4]) (.ret))]) E r
theorem k79 : chkF PP Tryz.f79 q79 [.tmp 4] = true := by kernel_rfl
theorem S_laws_szEntryS : SOf PP Tryz.f79 27 [.tmp 4] q79 F_laws_szEntryS := fun hs hn h => callsOK Tryz.func79 k79 hs hn h

def q80r0 := [gV 26 1, gO 4 (.asg true (.t 26))]
def q80r1 := [gV 16 5, gO 17 (.bin .add (.t 16) (xI 1)), gO 5 (.asg true (.t 17))]
def q80r2 := [gO 4 (.asg false (.c (.int .i64 (-1))))]
def q80r3 := [gV 24 1, gO 25 (.bin .lss (.t 24) (xI 0))]
def q80r4 := [gV 18 0, gV 19 5, gO 20 (.idx 4 (.t 18) (.t 19)), gO 21 (.lda 4 (.t 20)), gV 22 1, gO 23 (.call F_laws_szStep [.t 21, .t 22]), gO 1 (.asg true (.t 23))]
def q80r5 := [gV 12 5, gV 13 0, gO 14 (.len (.t 13)), gO 15 (.bin .lss (.t 12) (.t 14))]
def q80b0 : CC := .seq (.seq (.reg none q80r5 [0, 1, 5, 15]) (.cnd (.t 15) (.skip) (.exit 0))) (.seq (.blk 1 (.seq (.reg none q80r4 [0, 1, 5]) (.seq (.reg none q80r3 [0, 1, 5, 25]) (.cnd (.t 25) (.seq (.reg none q80r2 [4]) (.ret)) (.skip))))) (.reg none q80r1 [0, 1, 5]))
def q80r6 := [gO 5 (.asg false (xI 0))]
def q80r7 := [gO 4 (.asg false (.c (.int .i64 (-1))))]
def q80r8 := [gV 10 1, gO 11 (.bin .lss (.t 10) (xI 0))]
def q80r9 := [gV 6 1, gV 7 0, gO 8 (.len (.t 7)), gO 9 (.bin .sub (.t 6) (.t 8)), gO 1 (.asg true (.t 9))]
def q80r10 := [gO 4 (.asg false (xI 0))]
def q80 : CC := .seq (.reg none q80r10 [0, 1]) (.seq (.reg none q80r9 [0, 1]) (.seq (.seq (.reg none q80r8 [0, 1, 11]) (.cnd (.t 11) (.seq (.reg none q80r7 [4]) (.ret)) (.skip))) (.seq (.seq (.reg none q80r6 [0, 1, 5]) (.blk 0 (.loop q80b0 [0, 1, 5]))) (.seq (.reg none q80r0 [4]) (.ret)))))
abbrev L_laws_szStepS_0 (P : Program) (E : Env) (r : List RV) : Prop := Run P [.tmp 4] (.code q80b0 :: .lp q80b0 [0, 1, 5] :: [.blk 0, .code (.seq (.reg none q80r0 [4]) (.ret))]) E r
theorem k80 : chkF PP Tryz.f80 q80 [.tmp 4] = true := by kernel_rfl
theorem S_laws_szStepS : SOf PP Tryz.f80 27 [.tmp 4] q80 F_laws_szStepS := fun hs hn h => callsOK Tryz.func80 k80 hs hn h

def q81r0 := [gO 44 (.lda 6 (.t 8)), gS (.sto 6 (.t 6) (.t 44)), gO 7 (.asg false (.c (.bool true)))]
def q81r1 := [gO 40 (.fld (.t 3) 5), gO 41 (.ld (.t 40)), gO 42 (.bin .add (.t 41) (xI 1)), gO 43 (.fld (.t 8) 5), gS (.sto 1 (.t 43) (.t 42))]
def q81r2 := [gO 34 (.fld (.t 8) 4), gO 35 (.ld (.t 34)), gV 36 1, gO 37 (.lda 2 (.t 5)), gO 38 (.call F_spec_l18Copy [.t 37]), gO 39 (.idx 2 (.t 35) (.t 36)), gS (.sto 2 (.t 39) (.t 38))]
def q81r3 := [gO 33 (.lda 6 (.t 8)), gS (.sto 6 (.t 6) (.t 33)), gO 7 (.asg false (.c (.bool false)))]
def q81r4 := [gO 11 (.lda 6 (.t 3)), gO 12 (.call F_spec_IsDraft [.t 11]), gO 13 (.not (.t 12)), gV 14 13, gN 15 14 (.mv (.t 1)), gN 16 14 (.fld (.t 3) 4), gN 17 14 (.ld (.t 16)), gN 18 14 (.len (.t 17)), gN 19 14 (.bin .sub (.t 18) (xI 1)), gN 20 14 (.call F_spec_l1In [.t 15, .c (.int .i64 0), .t 19]), gN 21 14 (.not (.t 20)), gO 22 (.pick (.t 14) (.c (.bool true)) (.t 21)), gV 23 22, gN 24 23 (.lda 2 (.t 5)), gN 25 23 (.call F_spec_IsClue [.t 24]), gN 26 23 (.not (.t 25)), gO 27 (.pick (.t 23) (.c (.bool true)) (.t 26)), gV 28 27, gN 29 28 (.fld (.t 3) 5), gN 30 28 (.ld (.t 29)), gN 31 28 (.bin .geq (.t 30) (xI 9999)), gO 32 (.pick (.t 28) (.c (.bool true)) (.t 31))]
def q81r5 := [gO 9 (.lda 6 (.t 3)), gO 10 (.call F_spec_l27Copy [.t 9]), gO 8 (.alc [.int .i64 0, .int .i64 0, .str [], .str [], .sl 2 [], .int .i64 0]), gS (.sto 6 (.t 8) (.t 10))]
def q81r6 := [gO 3 (.box (.t 0)), gO 5 (.box (.t 2)), gO 6 (.alc [.int .i64 0, .int .i64 0, .str [], .str [], .sl 2 [], .int .i64 0]), gO 7 (.asg false (.c (.bool false)))]
def q81 : CC := .seq (.reg none q81r6 (nL [1, 3, 5, 6])) (.seq (.reg none q81r5 (nL [1, 3, 5, 6, 8])) (.seq (.seq (.reg none q81r4 (nL [1, 3, 5, 6, 8, 32])) (.cnd (.t 32) (.seq (.reg none q81r3 (nL [6, 7])) (.ret)) (.skip))) (.seq (.mix [0, 1, 2, 3] [[], [0], [], [], [3], [0, 1, 2, 3, 4], [0, 1, 2, 3, 4, 5]] q81r2 (nL [3, 6, 8])) (.seq (.reg none q81r1 (nL [6, 8])) (.seq (.reg none q81r0 (nL [6, 7])) (.ret))))))
theorem k81 : chkF PP Tryz.f81 q81 [.cella 6, .tmp 7] = true := by kernel_rfl
theorem SQ_spec_SetClue : SQOf PP Tryz.f81 45 [.cella 6, .tmp 7] q81 F_spec_SetClue := fun ni no hs hn hni hno h => callsH_of_run ni no Tryz.func81 k81 hs hn hni hno (fun u => h u _ (fun _ h => h))

def q82r0 := [gO 18 (.lda 6 (.t 3)), gS (.sto 6 (.t 2) (.t 18))]
def q82r1 := [gO 15 (.fld (.t 1) 5), gO 16 (.ld (.t 15)), gO 17 (.fld (.t 3) 5), gS (.sto 1 (.t 17) (.t 16))]
def q82r2 := [gO 11 (.fld (.t 1) 4), gO 12 (.ld (.t 11)), gO 13 (.call F_laws_toClueS [.t 12]), gO 14 (.fld (.t 3) 4), gS (.sto 1 (.t 14) (.t 13))]
def q82r3 := [gO 8 (.fld (.t 1) 3), gO 9 (.ld (.t 8)), gO 10 (.fld (.t 3) 3), gS (.sto 1 (.t 10) (.t 9))]
def q82r4 := [gO 4 (.fld (.t 1) 0), gO 5 (.lda 3 (.t 4)), gO 6 (.call F_laws_toGrid [.t 5]), gO 7 (.fld (.t 3) 0), gS (.sto 3 (.t 7) (.t 6))]
def q82r5 := [gO 3 (.alc [.int .i64 0, .int .i64 0, .str [], .str [], .sl 2 [], .int .i64 0])]
def q82r6 := [gO 1 (.box (.t 0)), gO 2 (.alc [.int .i64 0, .int .i64 0, .str [], .str [], .sl 2 [], .int .i64 0])]
def q82 : CC := .seq (.reg none q82r6 (nL [1, 2])) (.seq (.reg none q82r5 (nL [1, 2, 3])) (.seq (.reg none q82r4 (nL [1, 2, 3])) (.seq (.reg none q82r3 (nL [1, 2, 3])) (.seq (.reg none q82r2 (nL [1, 2, 3])) (.seq (.reg none q82r1 (nL [2, 3])) (.seq (.reg none q82r0 (nL [2])) (.ret)))))))
theorem k82 : chkF PP Tryz.f82 q82 [.cella 2] = true := by kernel_rfl
theorem SQ_laws_toDraft : SQOf PP Tryz.f82 19 [.cella 2] q82 F_laws_toDraft := fun ni no hs hn hni hno h => callsH_of_run ni no Tryz.func82 k82 hs hn hni hno (fun u => h u _ (fun _ h => h))

def q83r0 := [gV 22 3, gO 2 (.asg true (.t 22))]
def q83r1 := [gV 12 4, gO 13 (.bin .add (.t 12) (xI 1)), gO 4 (.asg true (.t 13))]
def q83r2 := [gV 14 3, gV 15 4, gV 16 0, gV 17 4, gO 18 (.idx 10 (.t 16) (.t 17)), gO 19 (.lda 10 (.t 18)), gO 20 (.call F_laws_toIssue [.t 19]), gO 21 (.idx 10 (.t 14) (.t 15)), gS (.sto 10 (.t 21) (.t 20))]
def q83r3 := [gV 8 4, gV 9 0, gO 10 (.len (.t 9)), gO 11 (.bin .lss (.t 8) (.t 10))]
def q83b0 : CC := .seq (.seq (.reg none q83r3 (nL [0, 3, 4, 11])) (.cnd (.t 11) (.skip) (.exit 0))) (.seq (.blk 1 (.reg none q83r2 (nL [0, 3, 4]))) (.reg none q83r1 (nL [0, 3, 4])))
def q83r4 := [gO 4 (.asg false (xI 0))]
def q83r5 := [gV 5 0, gO 6 (.len (.t 5)), gO 7 (.mks T_impl_Issue 10 128 [.int .i64 0, .int .i64 0, .int .i64 0, .str [], .sl 2 [], .sl 1 [], .int .i64 0, .str [], .int .i64 0, .int .i64 0] (.t 6)), gO 3 (.asg true (.t 7))]
def q83r6 := [gO 2 (.nilo T_impl_Issue 10 128)]
def q83 : CC := .seq (.reg none q83r6 (nL [0])) (.seq (.reg none q83r5 (nL [0, 3])) (.seq (.seq (.reg none q83r4 (nL [0, 3, 4])) (.blk 0 (.loop q83b0 (nL [0, 3, 4])))) (.seq (.reg none q83r0 (nL [2])) (.ret))))
abbrev L_laws_toIssueS_0 (P : Program) (Q : Env → Prop) (E : Env) : Prop := RunQ P Q (.code q83b0 :: .lp q83b0 (nL [0, 3, 4]) :: [.blk 0, .code (.seq (.reg none q83r0 (nL [2])) (.ret))]) E
theorem k83 : chkF PP Tryz.f83 q83 [.tmp 2] = true := by kernel_rfl
theorem SQ_laws_toIssueS : SQOf PP Tryz.f83 23 [.tmp 2] q83 F_laws_toIssueS := fun ni no hs hn hni hno h => callsH_of_run ni no Tryz.func83 k83 hs hn hni hno (fun u => h u _ (fun _ h => h))

def q84r0 := [gV 22 3, gO 2 (.asg true (.t 22))]
def q84r1 := [gV 12 4, gO 13 (.bin .add (.t 12) (xI 1)), gO 4 (.asg true (.t 13))]
def q84r2 := [gV 14 3, gV 15 4, gV 16 0, gV 17 4, gO 18 (.idx 2 (.t 16) (.t 17)), gO 19 (.lda 2 (.t 18)), gO 20 (.call F_laws_toUsed [.t 19]), gO 21 (.idx 2 (.t 14) (.t 15)), gS (.sto 2 (.t 21) (.t 20))]
def q84r3 := [gV 8 4, gV 9 0, gO 10 (.len (.t 9)), gO 11 (.bin .lss (.t 8) (.t 10))]
def q84b0 : CC := .seq (.seq (.reg none q84r3 [0, 3, 4, 11]) (.cnd (.t 11) (.skip) (.exit 0))) (.seq (.blk 1 (.reg none q84r2 [0, 3, 4])) (.reg none q84r1 [0, 3, 4]))
def q84r4 := [gO 4 (.asg false (xI 0))]
def q84r5 := [gV 5 0, gO 6 (.len (.t 5)), gO 7 (.mks T_impl_Used 2 24 [.str [], .int .i64 0] (.t 6)), gO 3 (.asg true (.t 7))]
def q84r6 := [gO 2 (.nilo T_impl_Used 2 24)]
def q84 : CC := .seq (.reg none q84r6 [0]) (.seq (.reg none q84r5 [0, 3]) (.seq (.seq (.reg none q84r4 [0, 3, 4]) (.blk 0 (.loop q84b0 [0, 3, 4]))) (.seq (.reg none q84r0 [2]) (.ret))))
abbrev L_laws_toUsedS_0 (P : Program) (E : Env) (r : List RV) : Prop := Run P [.tmp 2] (.code q84b0 :: .lp q84b0 [0, 3, 4] :: [.blk 0, .code (.seq (.reg none q84r0 [2]) (.ret))]) E r
theorem k84 : chkF PP Tryz.f84 q84 [.tmp 2] = true := by kernel_rfl
theorem S_laws_toUsedS : SOf PP Tryz.f84 23 [.tmp 2] q84 F_laws_toUsedS := fun hs hn h => callsOK Tryz.func84 k84 hs hn h

def q85r0 := [gV 22 3, gO 2 (.asg true (.t 22))]
def q85r1 := [gV 12 4, gO 13 (.bin .add (.t 12) (xI 1)), gO 4 (.asg true (.t 13))]
def q85r2 := [gV 14 3, gV 15 4, gV 16 0, gV 17 4, gO 18 (.idx 5 (.t 16) (.t 17)), gO 19 (.lda 5 (.t 18)), gO 20 (.call F_laws_toCorrection [.t 19]), gO 21 (.idx 5 (.t 14) (.t 15)), gS (.sto 5 (.t 21) (.t 20))]
def q85r3 := [gV 8 4, gV 9 0, gO 10 (.len (.t 9)), gO 11 (.bin .lss (.t 8) (.t 10))]
def q85b0 : CC := .seq (.seq (.reg none q85r3 (nL [0, 3, 4, 11])) (.cnd (.t 11) (.skip) (.exit 0))) (.seq (.blk 1 (.reg none q85r2 (nL [0, 3, 4]))) (.reg none q85r1 (nL [0, 3, 4])))
def q85r4 := [gO 4 (.asg false (xI 0))]
def q85r5 := [gV 5 0, gO 6 (.len (.t 5)), gO 7 (.mks T_impl_Correction 5 56 [.int .i64 0, .int .i64 0, .int .i64 0, .sl 4 [], .int .i64 0] (.t 6)), gO 3 (.asg true (.t 7))]
def q85r6 := [gO 2 (.nilo T_impl_Correction 5 56)]
def q85 : CC := .seq (.reg none q85r6 (nL [0])) (.seq (.reg none q85r5 (nL [0, 3])) (.seq (.seq (.reg none q85r4 (nL [0, 3, 4])) (.blk 0 (.loop q85b0 (nL [0, 3, 4])))) (.seq (.reg none q85r0 (nL [2])) (.ret))))
abbrev L_laws_toCorrectionS_0 (P : Program) (Q : Env → Prop) (E : Env) : Prop := RunQ P Q (.code q85b0 :: .lp q85b0 (nL [0, 3, 4]) :: [.blk 0, .code (.seq (.reg none q85r0 (nL [2])) (.ret))]) E
theorem k85 : chkF PP Tryz.f85 q85 [.tmp 2] = true := by kernel_rfl
theorem SQ_laws_toCorrectionS : SQOf PP Tryz.f85 23 [.tmp 2] q85 F_laws_toCorrectionS := fun ni no hs hn hni hno h => callsH_of_run ni no Tryz.func85 k85 hs hn hni hno (fun u => h u _ (fun _ h => h))

def q86r0 := [gV 22 3, gO 2 (.asg true (.t 22))]
def q86r1 := [gV 12 4, gO 13 (.bin .add (.t 12) (xI 1)), gO 4 (.asg true (.t 13))]
def q86r2 := [gV 14 3, gV 15 4, gV 16 0, gV 17 4, gO 18 (.idx 4 (.t 16) (.t 17)), gO 19 (.lda 4 (.t 18)), gO 20 (.call F_laws_toEntry [.t 19]), gO 21 (.idx 4 (.t 14) (.t 15)), gS (.sto 4 (.t 21) (.t 20))]
def q86r3 := [gV 8 4, gV 9 0, gO 10 (.len (.t 9)), gO 11 (.bin .lss (.t 8) (.t 10))]
def q86b0 : CC := .seq (.seq (.reg none q86r3 [0, 3, 4, 11]) (.cnd (.t 11) (.skip) (.exit 0))) (.seq (.blk 1 (.reg none q86r2 [0, 3, 4])) (.reg none q86r1 [0, 3, 4]))
def q86r4 := [gO 4 (.asg false (xI 0))]
def q86r5 := [gV 5 0, gO 6 (.len (.t 5)), gO 7 (.mks T_impl_Entry 4 40 [.int .i64 0, .int .i64 0, .int .i64 0, .str []] (.t 6)), gO 3 (.asg true (.t 7))]
def q86r6 := [gO 2 (.nilo T_impl_Entry 4 40)]
def q86 : CC := .seq (.reg none q86r6 [0]) (.seq (.reg none q86r5 [0, 3]) (.seq (.seq (.reg none q86r4 [0, 3, 4]) (.blk 0 (.loop q86b0 [0, 3, 4]))) (.seq (.reg none q86r0 [2]) (.ret))))
abbrev L_laws_toEntryS_0 (P : Program) (E : Env) (r : List RV) : Prop := Run P [.tmp 2] (.code q86b0 :: .lp q86b0 [0, 3, 4] :: [.blk 0, .code (.seq (.reg none q86r0 [2]) (.ret))]) E r
theorem k86 : chkF PP Tryz.f86 q86 [.tmp 2] = true := by kernel_rfl
theorem S_laws_toEntryS : SOf PP Tryz.f86 23 [.tmp 2] q86 F_laws_toEntryS := fun hs hn h => callsOK Tryz.func86 k86 hs hn h

def q87r0 := [gV 22 3, gO 2 (.asg true (.t 22))]
def q87r1 := [gV 12 4, gO 13 (.bin .add (.t 12) (xI 1)), gO 4 (.asg true (.t 13))]
def q87r2 := [gV 14 3, gV 15 4, gV 16 0, gV 17 4, gO 18 (.idx 4 (.t 16) (.t 17)), gO 19 (.lda 4 (.t 18)), gO 20 (.call F_laws_toStep [.t 19]), gO 21 (.idx 4 (.t 14) (.t 15)), gS (.sto 4 (.t 21) (.t 20))]
def q87r3 := [gV 8 4, gV 9 0, gO 10 (.len (.t 9)), gO 11 (.bin .lss (.t 8) (.t 10))]
def q87b0 : CC := .seq (.seq (.reg none q87r3 [0, 3, 4, 11]) (.cnd (.t 11) (.skip) (.exit 0))) (.seq (.blk 1 (.reg none q87r2 [0, 3, 4])) (.reg none q87r1 [0, 3, 4]))
def q87r4 := [gO 4 (.asg false (xI 0))]
def q87r5 := [gV 5 0, gO 6 (.len (.t 5)), gO 7 (.mks T_impl_Step 4 40 [.int .i64 0, .str [], .int .i64 0, .int .i64 0] (.t 6)), gO 3 (.asg true (.t 7))]
def q87r6 := [gO 2 (.nilo T_impl_Step 4 40)]
def q87 : CC := .seq (.reg none q87r6 [0]) (.seq (.reg none q87r5 [0, 3]) (.seq (.seq (.reg none q87r4 [0, 3, 4]) (.blk 0 (.loop q87b0 [0, 3, 4]))) (.seq (.reg none q87r0 [2]) (.ret))))
abbrev L_laws_toStepS_0 (P : Program) (E : Env) (r : List RV) : Prop := Run P [.tmp 2] (.code q87b0 :: .lp q87b0 [0, 3, 4] :: [.blk 0, .code (.seq (.reg none q87r0 [2]) (.ret))]) E r
theorem k87 : chkF PP Tryz.f87 q87 [.tmp 2] = true := by kernel_rfl
theorem S_laws_toStepS : SOf PP Tryz.f87 23 [.tmp 2] q87 F_laws_toStepS := fun hs hn h => callsOK Tryz.func87 k87 hs hn h

def q88r0 := [gO 43 (.lda 6 (.t 8)), gS (.sto 6 (.t 6) (.t 43)), gO 7 (.asg false (.c (.bool true)))]
def q88r1 := [gO 41 (.lda 6 (.t 3)), gO 42 (.call F_impl_copyDraft [.t 41]), gS (.sto 6 (.t 6) (.t 42)), gO 7 (.asg false (.c (.bool false)))]
def q88r2 := [gO 38 (.lda 6 (.t 8)), gO 39 (.call F_impl_IsDraft [.t 38]), gO 40 (.not (.t 39))]
def q88r3 := [gO 34 (.fld (.t 8) 5), gO 35 (.ld (.t 34)), gO 36 (.bin .add (.t 35) (xI 1)), gO 37 (.fld (.t 8) 5), gS (.sto 1 (.t 37) (.t 36))]
def q88r4 := [gO 28 (.fld (.t 8) 4), gO 29 (.ld (.t 28)), gV 30 1, gO 31 (.lda 2 (.t 5)), gO 32 (.call F_impl_copyClue [.t 31]), gO 33 (.idx 2 (.t 29) (.t 30)), gS (.sto 2 (.t 33) (.t 32))]
def q88r5 := [gO 27 (.lda 6 (.t 8)), gS (.sto 6 (.t 6) (.t 27)), gO 7 (.asg false (.c (.bool false)))]
def q88r6 := [gO 11 (.lda 6 (.t 3)), gO 12 (.call F_impl_IsDraft [.t 11]), gO 13 (.not (.t 12)), gV 14 13, gN 15 14 (.mv (.t 1)), gN 16 14 (.fld (.t 3) 4), gN 17 14 (.ld (.t 16)), gN 18 14 (.len (.t 17)), gN 19 14 (.call F_impl_at [.t 15, .t 18]), gN 20 14 (.not (.t 19)), gO 21 (.pick (.t 14) (.c (.bool true)) (.t 20)), gV 22 21, gN 23 22 (.lda 2 (.t 5)), gN 24 22 (.call F_impl_IsClue [.t 23]), gN 25 22 (.not (.t 24)), gO 26 (.pick (.t 22) (.c (.bool true)) (.t 25))]
def q88r7 := [gO 9 (.lda 6 (.t 3)), gO 10 (.call F_impl_copyDraft [.t 9]), gO 8 (.alc [.int .i64 0, .int .i64 0, .str [], .str [], .sl 2 [], .int .i64 0]), gS (.sto 6 (.t 8) (.t 10))]
def q88r8 := [gO 3 (.box (.t 0)), gO 5 (.box (.t 2)), gO 6 (.alc [.int .i64 0, .int .i64 0, .str [], .str [], .sl 2 [], .int .i64 0]), gO 7 (.asg false (.c (.bool false)))]
def q88 : CC := .seq (.reg none q88r8 (nL [1, 3, 5, 6])) (.seq (.reg none q88r7 (nL [1, 3, 5, 6, 8])) (.seq (.seq (.reg none q88r6 (nL [1, 3, 5, 6, 8, 26])) (.cnd (.t 26) (.seq (.reg none q88r5 (nL [6, 7])) (.ret)) (.skip))) (.seq (.mix [0, 1, 2, 3] [[], [0], [], [], [3], [0, 1, 2, 3, 4], [0, 1, 2, 3, 4, 5]] q88r4 (nL [3, 6, 8])) (.seq (.reg none q88r3 (nL [3, 6, 8])) (.seq (.seq (.reg none q88r2 (nL [3, 6, 8, 40])) (.cnd (.t 40) (.seq (.reg none q88r1 (nL [6, 7])) (.ret)) (.skip))) (.seq (.reg none q88r0 (nL [6, 7])) (.ret)))))))
theorem k88 : chkF PP Tryz.f88 q88 [.cella 6, .tmp 7] = true := by kernel_rfl
theorem SQ_impl_SetClue : SQOf PP Tryz.f88 44 [.cella 6, .tmp 7] q88 F_impl_SetClue := fun ni no hs hn hni hno h => callsH_of_run ni no Tryz.func88 k88 hs hn hni hno (fun u => h u _ (fun _ h => h))

def q89r0 := [gO 4 (.asg false (.c (.bool true)))]
def q89r1 := [gV 15 5, gO 16 (.bin .add (.t 15) (xI 1)), gO 5 (.asg true (.t 16))]
def q89r2 := [gO 4 (.asg false (.c (.bool false)))]
def q89r3 := [gV 17 0, gV 18 5, gO 19 (.idx 4 (.t 17) (.t 18)), gO 20 (.lda 4 (.t 19)), gV 21 1, gV 22 5, gO 23 (.idx 4 (.t 21) (.t 22)), gO 24 (.lda 4 (.t 23)), gO 25 (.call F_laws_eqStep [.t 20, .t 24]), gO 26 (.not (.t 25))]
def q89r4 := [gV 11 5, gV 12 0, gO 13 (.len (.t 12)), gO 14 (.bin .lss (.t 11) (.t 13))]
def q89b0 : CC := .seq (.seq (.reg none q89r4 [0, 1, 5, 14]) (.cnd (.t 14) (.skip) (.exit 0))) (.seq (.blk 1 (.seq (.reg (some (10, [[], [], [0, 1], [0, 1, 2], [], [], [4, 5], [4, 5, 6], [0, 1, 2, 3, 4, 5, 6, 7], [0, 1, 2, 3, 4, 5, 6, 7, 8]])) q89r3 [0, 1, 5, 26]) (.cnd (.t 26) (.seq (.reg none q89r2 [4]) (.ret)) (.skip)))) (.reg none q89r1 [0, 1, 5]))
def q89r5 := [gO 5 (.asg false (xI 0))]
def q89r6 := [gO 4 (.asg false (.c (.bool false)))]
def q89r7 := [gV 6 0, gO 7 (.len (.t 6)), gV 8 1, gO 9 (.len (.t 8)), gO 10 (.bin .neq (.t 7) (.t 9))]
def q89r8 := [gO 4 (.asg false (.c (.bool false)))]
def q89 : CC := .seq (.reg none q89r8 [0, 1]) (.seq (.seq (.reg none q89r7 [0, 1, 10]) (.cnd (.t 10) (.seq (.reg none q89r6 [4]) (.ret)) (.skip))) (.seq (.seq (.reg none q89r5 [0, 1, 5]) (.blk 0 (.loop q89b0 [0, 1, 5]))) (.seq (.reg none q89r0 [4]) (.ret))))
abbrev L_laws_eqStepS_0 (P : Program) (E : Env) (r : List RV) : Prop := Run P [.tmp 4] (.code q89b0 :: .lp q89b0 [0, 1, 5] :: [.blk 0, .code (.seq (.reg none q89r0 [4]) (.ret))]) E r
theorem k89 : chkF PP Tryz.f89 q89 [.tmp 4] = true := by kernel_rfl
theorem S_laws_eqStepS : SOf PP Tryz.f89 27 [.tmp 4] q89 F_laws_eqStepS := fun hs hn h => callsOK Tryz.func89 k89 hs hn h

def q90r0 := [gV 41 1, gO 4 (.asg true (.t 41))]
def q90r1 := [gV 10 5, gO 11 (.bin .add (.t 10) (xI 1)), gO 5 (.asg true (.t 11))]
def q90r2 := [gV 39 1, gO 40 (.bin .add (.t 39) (xI 1)), gO 1 (.asg true (.t 40))]
def q90r3 := [gV 34 0, gV 35 5, gV 36 1, gO 37 (.idx 4 (.t 34) (.t 35)), gO 38 (.fld (.t 37) 3), gS (.sto 1 (.t 38) (.t 36))]
def q90r4 := [gV 32 1, gO 33 (.bin .add (.t 32) (xI 1)), gO 1 (.asg true (.t 33))]
def q90r5 := [gV 27 0, gV 28 5, gV 29 1, gO 30 (.idx 4 (.t 27) (.t 28)), gO 31 (.fld (.t 30) 2), gS (.sto 1 (.t 31) (.t 29))]
def q90r6 := [gV 25 1, gO 26 (.bin .add (.t 25) (xI 1)), gO 1 (.asg true (.t 26))]
def q90r7 := [gV 19 0, gV 20 5, gV 21 1, gO 22 (.call F_laws_markText [.t 21]), gO 23 (.idx 4 (.t 19) (.t 20)), gO 24 (.fld (.t 23) 1), gS (.sto 1 (.t 24) (.t 22))]
def q90r8 := [gV 17 1, gO 18 (.bin .add (.t 17) (xI 1)), gO 1 (.asg true (.t 18))]
def q90r9 := [gV 12 0, gV 13 5, gV 14 1, gO 15 (.idx 4 (.t 12) (.t 13)), gO 16 (.fld (.t 15) 0), gS (.sto 1 (.t 16) (.t 14))]
def q90r10 := [gV 6 5, gV 7 0, gO 8 (.len (.t 7)), gO 9 (.bin .lss (.t 6) (.t 8))]
def q90b0 : CC := .seq (.seq (.reg none q90r10 (nL [0, 1, 5, 9])) (.cnd (.t 9) (.skip) (.exit 0))) (.seq (.blk 1 (.seq (.reg none q90r9 (nL [0, 1, 5])) (.seq (.reg none q90r8 (nL [0, 1, 5])) (.seq (.reg none q90r7 (nL [0, 1, 5])) (.seq (.reg none q90r6 (nL [0, 1, 5])) (.seq (.reg none q90r5 (nL [0, 1, 5])) (.seq (.reg none q90r4 (nL [0, 1, 5])) (.seq (.reg none q90r3 (nL [0, 1, 5])) (.reg none q90r2 (nL [0, 1, 5])))))))))) (.reg none q90r1 (nL [0, 1, 5])))
def q90r11 := [gO 5 (.asg false (xI 0))]
def q90r12 := [gO 4 (.asg false (xI 0))]
def q90 : CC := .seq (.reg none q90r12 (nL [0, 1])) (.seq (.seq (.reg none q90r11 (nL [0, 1, 5])) (.blk 0 (.loop q90b0 (nL [0, 1, 5])))) (.seq (.reg none q90r0 (nL [4])) (.ret)))
abbrev L_laws_markStepS_0 (P : Program) (Q : Env → Prop) (E : Env) : Prop := RunQ P Q (.code q90b0 :: .lp q90b0 (nL [0, 1, 5]) :: [.blk 0, .code (.seq (.reg none q90r0 (nL [4])) (.ret))]) E
theorem k90 : chkF PP Tryz.f90 q90 [.tmp 4] = true := by kernel_rfl
theorem SQ_laws_markStepS : SQOf PP Tryz.f90 42 [.tmp 4] q90 F_laws_markStepS := fun ni no hs hn hni hno h => callsH_of_run ni no Tryz.func90 k90 hs hn hni hno (fun u => h u _ (fun _ h => h))

def q99r0 := [gO 27 (.fld (.t 1) 0), gO 28 (.lda 3 (.t 27)), gO 29 (.call F_spec_FormOf [.t 28]), gO 30 (.bin .eql (.t 29) (xI 0)), gV 31 30, gY 32 31 (.fld (.t 1) 0), gY 33 31 (.lda 3 (.t 32)), gY 34 31 (.fld (.t 1) 3), gY 35 31 (.ld (.t 34)), gY 36 31 (.call F_spec_IsFill [.t 33, .t 35]), gO 37 (.pick (.t 31) (.t 36) (.c (.bool false))), gV 38 37, gY 39 38 (.fld (.t 1) 4), gY 40 38 (.ld (.t 39)), gY 41 38 (.len (.t 40)), gY 42 38 (.fld (.t 1) 0), gY 43 38 (.lda 3 (.t 42)), gY 44 38 (.call F_spec_SlotsOf [.t 43]), gY 45 38 (.len (.t 44)), gY 46 38 (.bin .eql (.t 41) (.t 45)), gO 47 (.pick (.t 38) (.t 46) (.c (.bool false))), gV 48 47, gY 49 48 (.fld (.t 1) 5), gY 50 48 (.ld (.t 49)), gY 51 48 (.call F_spec_l1In [.t 50, .c (.int .i64 1), .c (.int .i64 9999)]), gO 52 (.pick (.t 48) (.t 51) (.c (.bool false))), gV 2 52]
def q99r1 := [gV 9 3, gO 10 (.bin .add (.t 9) (xI 1)), gO 3 (.asg true (.t 10))]
def q99r2 := [gO 2 (.asg false (.c (.bool false)))]
def q99r3 := [gO 11 (.fld (.t 1) 4), gO 12 (.ld (.t 11)), gV 13 3, gO 14 (.idx 2 (.t 12) (.t 13)), gO 15 (.lda 2 (.t 14)), gO 16 (.call F_spec_l27Zero [.t 15]), gO 17 (.not (.t 16)), gV 18 17, gY 19 18 (.fld (.t 1) 4), gY 20 18 (.ld (.t 19)), gY 21 18 (.mv (.t 3)), gY 22 18 (.idx 2 (.t 20) (.t 21)), gY 23 18 (.lda 2 (.t 22)), gY 24 18 (.call F_spec_IsClue [.t 23]), gY 25 18 (.not (.t 24)), gO 26 (.pick (.t 18) (.t 25) (.c (.bool false)))]
def q99r4 := [gV 4 3, gO 5 (.fld (.t 1) 4), gO 6 (.ld (.t 5)), gO 7 (.len (.t 6)), gO 8 (.bin .lss (.t 4) (.t 7))]
def q99b0 : CC := .seq (.seq (.reg none q99r4 [1, 3, 8]) (.cnd (.t 8) (.skip) (.exit 0))) (.seq (.blk 1 (.seq (.reg none q99r3 [1, 3, 26]) (.cnd (.t 26) (.seq (.reg none q99r2 [2]) (.ret)) (.skip)))) (.reg none q99r1 [1, 3]))
def q99r5 := [gO 3 (.asg false (xI 0))]
def q99r6 := [gO 1 (.box (.t 0)), gO 2 (.asg false (.c (.bool false)))]
def q99 : CC := .seq (.reg none q99r6 [1]) (.seq (.seq (.reg none q99r5 [1, 3]) (.blk 0 (.loop q99b0 [1, 3]))) (.seq (.reg (some (27, [[], [0], [0, 1], [0, 1, 2], [0, 1, 2, 3], [0, 1, 2, 3, 4], [0, 1, 2, 3, 4, 5], [0, 1, 2, 3, 4], [0, 1, 2, 3, 4, 7], [0, 1, 2, 3, 4, 5, 6, 7, 8], [0, 1, 2, 3, 4, 5, 6, 7, 8, 9], [0, 1, 2, 3, 4, 5, 6, 7, 8, 9, 10], [0, 1, 2, 3, 4, 5, 6, 7, 8, 9, 10, 11], [0, 1, 2, 3, 4, 5, 6, 7, 8, 9, 10, 11, 12], [0, 1, 2, 3, 4, 5, 6, 7, 8, 9, 10, 11, 12, 13], [0, 1, 2, 3, 4, 5, 6, 7, 8, 9, 10, 11], [0, 1, 2, 3, 4, 5, 6, 7, 8, 9, 10, 11, 15], [0, 1, 2, 3, 4, 5, 6, 7, 8, 9, 10, 11, 15, 16], [0, 1, 2, 3, 4, 5, 6, 7, 8, 9, 10, 11, 15, 16, 17], [0, 1, 2, 3, 4, 5, 6, 7, 8, 9, 10, 11, 12, 13, 14, 15, 16, 17, 18], [0, 1, 2, 3, 4, 5, 6, 7, 8, 9, 10, 11, 12, 13, 14, 15, 16, 17, 18, 19], [0, 1, 2, 3, 4, 5, 6, 7, 8, 9, 10, 11, 12, 13, 14, 15, 16, 17, 18, 19, 20], [0, 1, 2, 3, 4, 5, 6, 7, 8, 9, 10, 11, 12, 13, 14, 15, 16, 17, 18, 19, 20, 21], [0, 1, 2, 3, 4, 5, 6, 7, 8, 9, 10, 11, 12, 13, 14, 15, 16, 17, 18, 19, 20, 21, 22], [0, 1, 2, 3, 4, 5, 6, 7, 8, 9, 10, 11, 12, 13, 14, 15, 16, 17, 18, 19, 20, 21, 22, 23], [0, 1, 2, 3, 4, 5, 6, 7, 8, 9, 10, 11, 12, 13, 14, 15, 16, 17, 18, 19, 20, 21, 22, 23, 24], [0, 1, 2, 3, 4, 5, 6, 7, 8, 9, 10, 11, 12, 13, 14, 15, 16, 17, 18, 19, 20, 21, 22, 23, 24, 25]])) q99r0 [2]) (.ret)))
abbrev L_spec_IsDraft_0 (P : Program) (E : Env) (r : List RV) : Prop := Run P [.tmp 2] (.code q99b0 :: .lp q99b0 [1, 3] :: [.blk 0, .code (.seq (.reg (some (27, [[], [0], [0, 1], [0, 1, 2], [0, 1, 2, 3], [0, 1, 2, 3, 4], [0, 1, 2, 3, 4, 5], [0, 1, 2, 3, 4], [0, 1, 2, 3, 4, 7], [0, 1, 2, 3, 4, 5, 6, 7, 8], [0, 1, 2, 3, 4, 5, 6, 7, 8, 9], [0, 1, 2, 3, 4, 5, 6, 7, 8, 9, 10], [0, 1, 2, 3, 4, 5, 6, 7, 8, 9, 10, 11], [0, 1, 2, 3, 4, 5, 6, 7, 8, 9, 10, 11, 12], [0, 1, 2, 3, 4, 5, 6, 7, 8, 9, 10, 11, 12, 13], [0, 1, 2, 3, 4, 5, 6, 7, 8, 9, 10, 11], [0, 1, 2, 3, 4, 5, 6, 7, 8, 9, 10, 11, 15], [0, 1, 2, 3, 4, 5, 6, 7, 8, 9, 10, 11, 15, 16], [0, 1, 2, 3, 4, 5, 6, 7, 8, 9, 10, 11, 15, 16, 17], [0, 1, 2, 3, 4, 5, 6, 7, 8, 9, 10, 11, 12, 13, 14, 15, 16, 17, 18], [0, 1, 2, 3, 4, 5, 6, 7, 8, 9, 10, 11, 12, 13, 14, 15, 16, 17, 18, 19], [0, 1, 2, 3, 4, 5, 6, 7, 8, 9, 10, 11, 12, 13, 14, 15, 16, 17, 18, 19, 20], [0, 1, 2, 3, 4, 5, 6, 7, 8, 9, 10, 11, 12, 13, 14, 15, 16, 17, 18, 19, 20, 21], [0, 1, 2, 3, 4, 5, 6, 7, 8, 9, 10, 11, 12, 13, 14, 15, 16, 17, 18, 19, 20, 21, 22], [0, 1, 2, 3, 4, 5, 6, 7, 8, 9, 10, 11, 12, 13, 14, 15, 16, 17, 18, 19, 20, 21, 22, 23], [0, 1, 2, 3, 4, 5, 6, 7, 8, 9, 10, 11, 12, 13, 14, 15, 16, 17, 18, 19, 20, 21, 22, 23, 24], [0, 1, 2, 3, 4, 5, 6, 7, 8, 9, 10, 11, 12, 13, 14, 15, 16, 17, 18, 19, 20, 21, 22, 23, 24, 25]])) q99r0 [2]) (.ret))]) E r
theorem k99 : chkF PP Tryz.f99 q99 [.tmp 2] = true := by kernel_rfl
theorem S_spec_IsDraft : SOf PP Tryz.f99 53 [.tmp 2] q99 F_spec_IsDraft := fun hs hn h => callsOK Tryz.func99 k99 hs hn h

def q100r0 := [gO 3 (.fld (.t 1) 0), gO 4 (.lda 3 (.t 3)), gO 5 (.call F_impl_FormOf [.t 4]), gO 6 (.bin .eql (.t 5) (xI 0)), gV 7 6, gY 8 7 (.fld (.t 1) 0), gY 9 7 (.lda 3 (.t 8)), gY 10 7 (.fld (.t 1) 3), gY 11 7 (.ld (.t 10)), gY 12 7 (.call F_impl_IsFill [.t 9, .t 11]), gO 13 (.pick (.t 7) (.t 12) (.c (.bool false))), gV 14 13, gY 15 14 (.fld (.t 1) 4), gY 16 14 (.ld (.t 15)), gY 17 14 (.len (.t 16)), gY 18 14 (.fld (.t 1) 0), gY 19 14 (.lda 3 (.t 18)), gY 20 14 (.call F_impl_SlotsOf [.t 19]), gY 21 14 (.len (.t 20)), gY 22 14 (.bin .eql (.t 17) (.t 21)), gO 23 (.pick (.t 14) (.t 22) (.c (.bool false))), gV 24 23, gY 25 24 (.fld (.t 1) 5), gY 26 24 (.ld (.t 25)), gY 27 24 (.call F_impl_InRange [.t 26, .c (.int .i64 1), .c (.int .i64 9999)]), gO 28 (.pick (.t 24) (.t 27) (.c (.bool false))), gV 29 28, gY 30 29 (.fld (.t 1) 4), gY 31 29 (.ld (.t 30)), gY 32 29 (.call F_slices_ContainsFunc_impl_Clue [.t 31, .fn F_impl_IsDraft_1]), gY 33 29 (.not (.t 32)), gO 34 (.pick (.t 29) (.t 33) (.c (.bool false))), gV 2 34]
def q100r1 := [gO 1 (.box (.t 0)), gO 2 (.asg false (.c (.bool false)))]
def q100 : CC := .seq (.reg none q100r1 [1]) (.seq (.reg (some (33, [[], [0], [0, 1], [0, 1, 2], [0, 1, 2, 3], [0, 1, 2, 3, 4], [0, 1, 2, 3, 4, 5], [0, 1, 2, 3, 4], [0, 1, 2, 3, 4, 7], [0, 1, 2, 3, 4, 5, 6, 7, 8], [0, 1, 2, 3, 4, 5, 6, 7, 8, 9], [0, 1, 2, 3, 4, 5, 6, 7, 8, 9, 10], [0, 1, 2, 3, 4, 5, 6, 7, 8, 9, 10, 11], [0, 1, 2, 3, 4, 5, 6, 7, 8, 9, 10, 11, 12], [0, 1, 2, 3, 4, 5, 6, 7, 8, 9, 10, 11, 12, 13], [0, 1, 2, 3, 4, 5, 6, 7, 8, 9, 10, 11], [0, 1, 2, 3, 4, 5, 6, 7, 8, 9, 10, 11, 15], [0, 1, 2, 3, 4, 5, 6, 7, 8, 9, 10, 11, 15, 16], [0, 1, 2, 3, 4, 5, 6, 7, 8, 9, 10, 11, 15, 16, 17], [0, 1, 2, 3, 4, 5, 6, 7, 8, 9, 10, 11, 12, 13, 14, 15, 16, 17, 18], [0, 1, 2, 3, 4, 5, 6, 7, 8, 9, 10, 11, 12, 13, 14, 15, 16, 17, 18, 19], [0, 1, 2, 3, 4, 5, 6, 7, 8, 9, 10, 11, 12, 13, 14, 15, 16, 17, 18, 19, 20], [0, 1, 2, 3, 4, 5, 6, 7, 8, 9, 10, 11, 12, 13, 14, 15, 16, 17, 18, 19, 20, 21], [0, 1, 2, 3, 4, 5, 6, 7, 8, 9, 10, 11, 12, 13, 14, 15, 16, 17, 18, 19, 20, 21, 22], [0, 1, 2, 3, 4, 5, 6, 7, 8, 9, 10, 11, 12, 13, 14, 15, 16, 17, 18, 19, 20, 21, 22, 23], [0, 1, 2, 3, 4, 5, 6, 7, 8, 9, 10, 11, 12, 13, 14, 15, 16, 17, 18, 19, 20, 21, 22, 23, 24], [0, 1, 2, 3, 4, 5, 6, 7, 8, 9, 10, 11, 12, 13, 14, 15, 16, 17, 18, 19, 20, 21, 22, 23, 24, 25], [0, 1, 2, 3, 4, 5, 6, 7, 8, 9, 10, 11, 12, 13, 14, 15, 16, 17, 18, 19, 20, 21, 22, 23, 24, 25, 26], [0, 1, 2, 3, 4, 5, 6, 7, 8, 9, 10, 11, 12, 13, 14, 15, 16, 17, 18, 19, 20, 21, 22, 23, 24, 25, 26, 27], [0, 1, 2, 3, 4, 5, 6, 7, 8, 9, 10, 11, 12, 13, 14, 15, 16, 17, 18, 19, 20, 21, 22, 23, 24, 25, 26, 27, 28], [0, 1, 2, 3, 4, 5, 6, 7, 8, 9, 10, 11, 12, 13, 14, 15, 16, 17, 18, 19, 20, 21, 22, 23, 24, 25, 26, 27, 28, 29], [0, 1, 2, 3, 4, 5, 6, 7, 8, 9, 10, 11, 12, 13, 14, 15, 16, 17, 18, 19, 20, 21, 22, 23, 24, 25, 26, 27, 28, 29, 30], [0, 1, 2, 3, 4, 5, 6, 7, 8, 9, 10, 11, 12, 13, 14, 15, 16, 17, 18, 19, 20, 21, 22, 23, 24, 25, 26, 27, 28, 29, 30, 31]])) q100r0 [2]) (.ret))
theorem k100 : chkF PP Tryz.f100 q100 [.tmp 2] = true := by kernel_rfl
theorem S_impl_IsDraft : SOf PP Tryz.f100 35 [.tmp 2] q100 F_impl_IsDraft := fun hs hn h => callsOK Tryz.func100 k100 hs hn h

def q116r0 := [gO 3 (.fld (.t 1) 0), gO 4 (.ld (.t 3)), gO 5 (.fld (.t 1) 1), gO 6 (.ld (.t 5)), gO 7 (.call F_slices_Clone_impl_Step [.t 6]), gO 8 (.bld [.int .i64 0, .sl 4 []] [(0, 1, .t 4), (1, 1, .t 7)]), gS (.sto 2 (.t 2) (.t 8))]
def q116r1 := [gO 1 (.box (.t 0)), gO 2 (.alc [.int .i64 0, .sl 4 []])]
def q116 : CC := .seq (.reg none q116r1 (nL [1, 2])) (.seq (.mix [0, 1, 2, 3] [[], [0], [], [2], [2, 3], [0, 1, 2, 3, 4], [0, 1, 2, 3, 4, 5]] q116r0 (nL [2])) (.ret))
theorem k116 : chkF PP Tryz.f116 q116 [.cella 2] = true := by kernel_rfl
theorem SQ_impl_copyClue : SQOf PP Tryz.f116 9 [.cella 2] q116 F_impl_copyClue := fun ni no hs hn hni hno h => callsH_of_run ni no Tryz.func116 k116 hs hn hni hno (fun u => h u _ (fun _ h => h))

def q130r0 := [gO 7 (.lda 6 (.t 1)), gS (.sto 6 (.t 2) (.t 7))]
def q130r1 := [gO 3 (.fld (.t 1) 4), gO 4 (.ld (.t 3)), gO 5 (.call F_spec_l21Clues [.t 4]), gO 6 (.fld (.t 1) 4), gS (.sto 1 (.t 6) (.t 5))]
def q130r2 := [gO 1 (.box (.t 0)), gO 2 (.alc [.int .i64 0, .int .i64 0, .str [], .str [], .sl 2 [], .int .i64 0])]
def q130 : CC := .seq (.reg none q130r2 (nL [1, 2])) (.seq (.reg none q130r1 (nL [1, 2])) (.seq (.reg none q130r0 (nL [2])) (.ret)))
theorem k130 : chkF PP Tryz.f130 q130 [.cella 2] = true := by kernel_rfl
theorem S_spec_l27Copy : SOf PP Tryz.f130 8 [.cella 2] q130 F_spec_l27Copy := fun hs hn h => callsOK Tryz.func130 k130 hs hn h
theorem SQ_spec_l27Copy : SQOf PP Tryz.f130 8 [.cella 2] q130 F_spec_l27Copy := fun ni no hs hn hni hno h => callsH_of_run ni no Tryz.func130 k130 hs hn hni hno (fun u => h u _ (fun _ h => h))

def q131r0 := [gV 25 3, gO 2 (.asg true (.t 25))]
def q131r1 := [gV 11 4, gO 12 (.bin .add (.t 11) (xI 1)), gO 4 (.asg true (.t 12))]
def q131r2 := [gV 21 3, gO 22 (.lda 5 (.t 5)), gO 23 (.bsl 5 [.t 22]), gO 24 (.app T_impl_Correction 5 56 (.t 21) (.t 23)), gO 3 (.asg true (.t 24))]
def q131r3 := [gO 17 (.fld (.t 5) 2), gO 18 (.lda 2 (.t 17)), gO 19 (.call F_spec_l18Copy [.t 18]), gO 20 (.fld (.t 5) 2), gS (.sto 2 (.t 20) (.t 19))]
def q131r4 := [gV 13 0, gV 14 4, gO 15 (.idx 5 (.t 13) (.t 14)), gO 16 (.lda 5 (.t 15)), gO 5 (.alc [.int .i64 0, .int .i64 0, .int .i64 0, .sl 4 [], .int .i64 0]), gS (.sto 5 (.t 5) (.t 16))]
def q131r5 := [gV 7 4, gV 8 0, gO 9 (.len (.t 8)), gO 10 (.bin .lss (.t 7) (.t 9))]
def q131b0 : CC := .seq (.seq (.reg none q131r5 [0, 3, 4, 10]) (.cnd (.t 10) (.skip) (.exit 0))) (.seq (.blk 1 (.seq (.reg none q131r4 [0, 3, 4, 5]) (.seq (.reg none q131r3 [0, 3, 4, 5]) (.reg none q131r2 [0, 3, 4])))) (.reg none q131r1 [0, 3, 4]))
def q131r6 := [gO 4 (.asg false (xI 0))]
def q131r7 := [gO 6 (.bslo T_impl_Correction 5 56 []), gO 3 (.asg true (.t 6))]
def q131r8 := [gO 2 (.nilo T_impl_Correction 5 56)]
def q131 : CC := .seq (.reg none q131r8 [0]) (.seq (.reg none q131r7 [0, 3]) (.seq (.seq (.reg none q131r6 [0, 3, 4]) (.blk 0 (.loop q131b0 [0, 3, 4]))) (.seq (.reg none q131r0 [2]) (.ret))))
abbrev L_spec_l31Copy_0 (P : Program) (E : Env) (r : List RV) : Prop := Run P [.tmp 2] (.code q131b0 :: .lp q131b0 [0, 3, 4] :: [.blk 0, .code (.seq (.reg none q131r0 [2]) (.ret))]) E r
theorem k131 : chkF PP Tryz.f131 q131 [.tmp 2] = true := by kernel_rfl
theorem S_spec_l31Copy : SOf PP Tryz.f131 26 [.tmp 2] q131 F_spec_l31Copy := fun hs hn h => callsOK Tryz.func131 k131 hs hn h

def q132r0 := [gO 7 (.lda 10 (.t 1)), gS (.sto 10 (.t 2) (.t 7))]
def q132r1 := [gO 3 (.fld (.t 1) 1), gO 4 (.lda 6 (.t 3)), gO 5 (.call F_spec_l21Copy [.t 4]), gO 6 (.fld (.t 1) 1), gS (.sto 6 (.t 6) (.t 5))]
def q132r2 := [gO 1 (.box (.t 0)), gO 2 (.alc [.int .i64 0, .int .i64 0, .int .i64 0, .str [], .sl 2 [], .sl 1 [], .int .i64 0, .str [], .int .i64 0, .int .i64 0])]
def q132 : CC := .seq (.reg none q132r2 [1, 2]) (.seq (.reg none q132r1 [1, 2]) (.seq (.reg none q132r0 [2]) (.ret)))
theorem k132 : chkF PP Tryz.f132 q132 [.cella 2] = true := by kernel_rfl
theorem S_spec_l30Copy : SOf PP Tryz.f132 8 [.cella 2] q132 F_spec_l30Copy := fun hs hn h => callsOK Tryz.func132 k132 hs hn h

def q138r0 := [gV 7 0, gV 8 1, gO 9 (.bin .geq (.t 7) (.t 8)), gV 10 9, gY 11 10 (.mv (.t 0)), gY 12 10 (.mv (.t 2)), gY 13 10 (.bin .leq (.t 11) (.t 12)), gO 14 (.pick (.t 10) (.t 13) (.c (.bool false))), gO 6 (.asg true (.t 14))]
def q138r1 := [gO 6 (.asg false (.c (.bool false)))]
def q138 : CC := .seq (.reg none q138r1 [0, 1, 2]) (.seq (.reg none q138r0 [6]) (.ret))
theorem k138 : chkF PP Tryz.f138 q138 [.tmp 6] = true := by kernel_rfl
theorem S_spec_l1In : SOf PP Tryz.f138 15 [.tmp 6] q138 F_spec_l1In := fun hs hn h => callsOK Tryz.func138 k138 hs hn h

def q139r0 := [gO 5 (.bslo T_impl_Listed 4 40 []), gV 6 0, gO 7 (.app T_impl_Listed 4 40 (.t 5) (.t 6)), gO 2 (.asg true (.t 7))]
def q139r1 := [gO 2 (.nilo T_impl_Listed 4 40)]
def q139r2 := [gV 3 0, gO 4 (.isn false (.t 3))]
def q139r3 := [gO 2 (.nilo T_impl_Listed 4 40)]
def q139 : CC := .seq (.reg none q139r3 [0]) (.seq (.seq (.reg none q139r2 [0, 4]) (.cnd (.t 4) (.seq (.reg none q139r1 [2]) (.ret)) (.skip))) (.seq (.reg none q139r0 [2]) (.ret)))
theorem k139 : chkF PP Tryz.f139 q139 [.tmp 2] = true := by kernel_rfl
theorem S_slices_Clone_impl_Listed : SOf PP Tryz.f139 8 [.tmp 2] q139 F_slices_Clone_impl_Listed := fun hs hn h => callsOK Tryz.func139 k139 hs hn h

def q140r0 := [gO 5 (.bslo T_impl_Meaning 2 24 []), gV 6 0, gO 7 (.app T_impl_Meaning 2 24 (.t 5) (.t 6)), gO 2 (.asg true (.t 7))]
def q140r1 := [gO 2 (.nilo T_impl_Meaning 2 24)]
def q140r2 := [gV 3 0, gO 4 (.isn false (.t 3))]
def q140r3 := [gO 2 (.nilo T_impl_Meaning 2 24)]
def q140 : CC := .seq (.reg none q140r3 [0]) (.seq (.seq (.reg none q140r2 [0, 4]) (.cnd (.t 4) (.seq (.reg none q140r1 [2]) (.ret)) (.skip))) (.seq (.reg none q140r0 [2]) (.ret)))
theorem k140 : chkF PP Tryz.f140 q140 [.tmp 2] = true := by kernel_rfl
theorem S_slices_Clone_impl_Meaning : SOf PP Tryz.f140 8 [.tmp 2] q140 F_slices_Clone_impl_Meaning := fun hs hn h => callsOK Tryz.func140 k140 hs hn h

def q141r0 := [gO 7 (.lda 6 (.t 1)), gS (.sto 6 (.t 2) (.t 7))]
def q141r1 := [gO 3 (.fld (.t 1) 4), gO 4 (.ld (.t 3)), gO 5 (.call F_impl_copyClues [.t 4]), gO 6 (.fld (.t 1) 4), gS (.sto 1 (.t 6) (.t 5))]
def q141r2 := [gO 1 (.box (.t 0)), gO 2 (.alc [.int .i64 0, .int .i64 0, .str [], .str [], .sl 2 [], .int .i64 0])]
def q141 : CC := .seq (.reg none q141r2 (nL [1, 2])) (.seq (.reg none q141r1 (nL [1, 2])) (.seq (.reg none q141r0 (nL [2])) (.ret)))
theorem k141 : chkF PP Tryz.f141 q141 [.cella 2] = true := by kernel_rfl
theorem SQ_impl_copyDraft : SQOf PP Tryz.f141 8 [.cella 2] q141 F_impl_copyDraft := fun ni no hs hn hni hno h => callsH_of_run ni no Tryz.func141 k141 hs hn hni hno (fun u => h u _ (fun _ h => h))

def q142r0 := [gO 7 (.lda 10 (.t 1)), gS (.sto 10 (.t 2) (.t 7))]
def q142r1 := [gO 3 (.fld (.t 1) 1), gO 4 (.lda 6 (.t 3)), gO 5 (.call F_impl_copyPuzzle [.t 4]), gO 6 (.fld (.t 1) 1), gS (.sto 6 (.t 6) (.t 5))]
def q142r2 := [gO 1 (.box (.t 0)), gO 2 (.alc [.int .i64 0, .int .i64 0, .int .i64 0, .str [], .sl 2 [], .sl 1 [], .int .i64 0, .str [], .int .i64 0, .int .i64 0])]
def q142 : CC := .seq (.reg none q142r2 (nL [1, 2])) (.seq (.reg none q142r1 (nL [1, 2])) (.seq (.reg none q142r0 (nL [2])) (.ret)))
theorem k142 : chkF PP Tryz.f142 q142 [.cella 2] = true := by kernel_rfl
theorem SQ_impl_copyIssue : SQOf PP Tryz.f142 8 [.cella 2] q142 F_impl_copyIssue := fun ni no hs hn hni hno h => callsH_of_run ni no Tryz.func142 k142 hs hn hni hno (fun u => h u _ (fun _ h => h))

def q143r0 := [gO 5 (.bslo T_impl_Used 2 24 []), gV 6 0, gO 7 (.app T_impl_Used 2 24 (.t 5) (.t 6)), gO 2 (.asg true (.t 7))]
def q143r1 := [gO 2 (.nilo T_impl_Used 2 24)]
def q143r2 := [gV 3 0, gO 4 (.isn false (.t 3))]
def q143r3 := [gO 2 (.nilo T_impl_Used 2 24)]
def q143 : CC := .seq (.reg none q143r3 [0]) (.seq (.seq (.reg none q143r2 [0, 4]) (.cnd (.t 4) (.seq (.reg none q143r1 [2]) (.ret)) (.skip))) (.seq (.reg none q143r0 [2]) (.ret)))
theorem k143 : chkF PP Tryz.f143 q143 [.tmp 2] = true := by kernel_rfl
theorem S_slices_Clone_impl_Used : SOf PP Tryz.f143 8 [.tmp 2] q143 F_slices_Clone_impl_Used := fun hs hn h => callsOK Tryz.func143 k143 hs hn h

def q144r0 := [gV 21 3, gO 2 (.asg true (.t 21))]
def q144r1 := [gO 20 (.bin .add (.t 8) (xI 1)), gV 8 20]
def q144r2 := [gV 16 3, gO 17 (.lda 5 (.t 5)), gO 18 (.bsl 5 [.t 17]), gO 19 (.app T_impl_Correction 5 56 (.t 16) (.t 18)), gO 3 (.asg true (.t 19))]
def q144r3 := [gO 12 (.fld (.t 5) 2), gO 13 (.lda 2 (.t 12)), gO 14 (.call F_impl_copyClue [.t 13]), gO 15 (.fld (.t 5) 2), gS (.sto 2 (.t 15) (.t 14))]
def q144r4 := [gO 10 (.idx 5 (.t 6) (.t 8)), gO 11 (.lda 5 (.t 10)), gO 5 (.alc [.int .i64 0, .int .i64 0, .int .i64 0, .sl 4 [], .int .i64 0]), gS (.sto 5 (.t 5) (.t 11))]
def q144r5 := [gO 9 (.bin .lss (.t 8) (.t 7))]
def q144b0 : CC := .seq (.reg none q144r5 (nL [0, 3, 6, 7, 8, 9])) (.seq (.cnd (.t 9) (.skip) (.exit 0)) (.seq (.blk 1 (.seq (.reg none q144r4 (nL [0, 3, 5, 6, 7, 8])) (.seq (.reg none q144r3 (nL [0, 3, 5, 6, 7, 8])) (.reg none q144r2 (nL [0, 3, 6, 7, 8]))))) (.reg none q144r1 (nL [0, 3, 6, 7, 8]))))
def q144r6 := [gV 6 0, gO 7 (.len (.t 6)), gO 8 (.mv (xI 0))]
def q144r7 := [gO 3 (.nilo T_impl_Correction 5 56)]
def q144r8 := [gO 2 (.nilo T_impl_Correction 5 56)]
def q144 : CC := .seq (.reg none q144r8 (nL [0])) (.seq (.reg none q144r7 (nL [0, 3])) (.seq (.seq (.reg none q144r6 (nL [0, 3, 6, 7, 8])) (.blk 0 (.loop q144b0 (nL [0, 3, 6, 7, 8])))) (.seq (.reg none q144r0 (nL [2])) (.ret))))
abbrev L_impl_copyCorrections_0 (P : Program) (Q : Env → Prop) (E : Env) : Prop := RunQ P Q (.code q144b0 :: .lp q144b0 (nL [0, 3, 6, 7, 8]) :: [.blk 0, .code (.seq (.reg none q144r0 (nL [2])) (.ret))]) E
theorem k144 : chkF PP Tryz.f144 q144 [.tmp 2] = true := by kernel_rfl
theorem SQ_impl_copyCorrections : SQOf PP Tryz.f144 22 [.tmp 2] q144 F_impl_copyCorrections := fun ni no hs hn hni hno h => callsH_of_run ni no Tryz.func144 k144 hs hn hni hno (fun u => h u _ (fun _ h => h))

def q145r0 := [gO 5 (.bslo T_impl_Entry 4 40 []), gV 6 0, gO 7 (.app T_impl_Entry 4 40 (.t 5) (.t 6)), gO 2 (.asg true (.t 7))]
def q145r1 := [gO 2 (.nilo T_impl_Entry 4 40)]
def q145r2 := [gV 3 0, gO 4 (.isn false (.t 3))]
def q145r3 := [gO 2 (.nilo T_impl_Entry 4 40)]
def q145 : CC := .seq (.reg none q145r3 [0]) (.seq (.seq (.reg none q145r2 [0, 4]) (.cnd (.t 4) (.seq (.reg none q145r1 [2]) (.ret)) (.skip))) (.seq (.reg none q145r0 [2]) (.ret)))
theorem k145 : chkF PP Tryz.f145 q145 [.tmp 2] = true := by kernel_rfl
theorem S_slices_Clone_impl_Entry : SOf PP Tryz.f145 8 [.tmp 2] q145 F_slices_Clone_impl_Entry := fun hs hn h => callsOK Tryz.func145 k145 hs hn h

def q152r0 := [gV 7 1, gV 8 0, gO 9 (.bin .leq (.t 7) (.t 8)), gV 10 9, gY 11 10 (.mv (.t 0)), gY 12 10 (.mv (.t 2)), gY 13 10 (.bin .leq (.t 11) (.t 12)), gO 14 (.pick (.t 10) (.t 13) (.c (.bool false))), gO 6 (.asg true (.t 14))]
def q152r1 := [gO 6 (.asg false (.c (.bool false)))]
def q152 : CC := .seq (.reg none q152r1 [0, 1, 2]) (.seq (.reg none q152r0 [6]) (.ret))
theorem k152 : chkF PP Tryz.f152 q152 [.tmp 6] = true := by kernel_rfl
theorem S_impl_InRange : SOf PP Tryz.f152 15 [.tmp 6] q152 F_impl_InRange := fun hs hn h => callsOK Tryz.func152 k152 hs hn h

def q153r0 := [gV 5 0, gO 6 (.bin .geq (.t 5) (xI 0)), gV 7 6, gY 8 7 (.mv (.t 0)), gY 9 7 (.mv (.t 1)), gY 10 7 (.bin .lss (.t 8) (.t 9)), gO 11 (.pick (.t 7) (.t 10) (.c (.bool false))), gO 4 (.asg true (.t 11))]
def q153r1 := [gO 4 (.asg false (.c (.bool false)))]
def q153 : CC := .seq (.reg none q153r1 [0, 1]) (.seq (.reg none q153r0 [4]) (.ret))
theorem k153 : chkF PP Tryz.f153 q153 [.tmp 4] = true := by kernel_rfl
theorem S_impl_at : SOf PP Tryz.f153 12 [.tmp 4] q153 F_impl_at := fun hs hn h => callsOK Tryz.func153 k153 hs hn h

def q154r0 := [gO 4 (.asg false (.c (.bool true)))]
def q154r1 := [gO 4 (.asg false (.c (.bool false)))]
def q154r2 := [gO 15 (.fld (.t 2) 2), gO 16 (.ld (.t 15)), gO 17 (.fld (.t 3) 2), gO 18 (.ld (.t 17)), gO 19 (.bin .neq (.t 16) (.t 18))]
def q154r3 := [gO 4 (.asg false (.c (.bool false)))]
def q154r4 := [gO 10 (.fld (.t 2) 1), gO 11 (.ld (.t 10)), gO 12 (.fld (.t 3) 1), gO 13 (.ld (.t 12)), gO 14 (.bin .neq (.t 11) (.t 13))]
def q154r5 := [gO 4 (.asg false (.c (.bool false)))]
def q154r6 := [gO 5 (.fld (.t 2) 0), gO 6 (.ld (.t 5)), gO 7 (.fld (.t 3) 0), gO 8 (.ld (.t 7)), gO 9 (.bin .neq (.t 6) (.t 8))]
def q154r7 := [gO 2 (.box (.t 0)), gO 3 (.box (.t 1)), gO 4 (.asg false (.c (.bool false)))]
def q154 : CC := .seq (.reg none q154r7 [2, 3]) (.seq (.seq (.reg none q154r6 [2, 3, 9]) (.cnd (.t 9) (.seq (.reg none q154r5 [4]) (.ret)) (.skip))) (.seq (.seq (.reg none q154r4 [2, 3, 14]) (.cnd (.t 14) (.seq (.reg none q154r3 [4]) (.ret)) (.skip))) (.seq (.seq (.reg none q154r2 [19]) (.cnd (.t 19) (.seq (.reg none q154r1 [4]) (.ret)) (.skip))) (.seq (.reg none q154r0 [4]) (.ret)))))
theorem k154 : chkF PP Tryz.f154 q154 [.tmp 4] = true := by kernel_rfl
theorem S_laws_eqGrid : SOf PP Tryz.f154 20 [.tmp 4] q154 F_laws_eqGrid := fun hs hn h => callsOK Tryz.func154 k154 hs hn h

def q155r0 := [gO 4 (.asg false (.c (.bool true)))]
def q155r1 := [gV 15 5, gO 16 (.bin .add (.t 15) (xI 1)), gO 5 (.asg true (.t 16))]
def q155r2 := [gO 4 (.asg false (.c (.bool false)))]
def q155r3 := [gV 17 0, gV 18 5, gO 19 (.idx 2 (.t 17) (.t 18)), gO 20 (.lda 2 (.t 19)), gV 21 1, gV 22 5, gO 23 (.idx 2 (.t 21) (.t 22)), gO 24 (.lda 2 (.t 23)), gO 25 (.call F_laws_eqClue [.t 20, .t 24]), gO 26 (.not (.t 25))]
def q155r4 := [gV 11 5, gV 12 0, gO 13 (.len (.t 12)), gO 14 (.bin .lss (.t 11) (.t 13))]
def q155b0 : CC := .seq (.seq (.reg none q155r4 [0, 1, 5, 14]) (.cnd (.t 14) (.skip) (.exit 0))) (.seq (.blk 1 (.seq (.reg (some (10, [[], [], [0, 1], [0, 1, 2], [], [], [4, 5], [4, 5, 6], [0, 1, 2, 3, 4, 5, 6, 7], [0, 1, 2, 3, 4, 5, 6, 7, 8]])) q155r3 [0, 1, 5, 26]) (.cnd (.t 26) (.seq (.reg none q155r2 [4]) (.ret)) (.skip)))) (.reg none q155r1 [0, 1, 5]))
def q155r5 := [gO 5 (.asg false (xI 0))]
def q155r6 := [gO 4 (.asg false (.c (.bool false)))]
def q155r7 := [gV 6 0, gO 7 (.len (.t 6)), gV 8 1, gO 9 (.len (.t 8)), gO 10 (.bin .neq (.t 7) (.t 9))]
def q155r8 := [gO 4 (.asg false (.c (.bool false)))]
def q155 : CC := .seq (.reg none q155r8 [0, 1]) (.seq (.seq (.reg none q155r7 [0, 1, 10]) (.cnd (.t 10) (.seq (.reg none q155r6 [4]) (.ret)) (.skip))) (.seq (.seq (.reg none q155r5 [0, 1, 5]) (.blk 0 (.loop q155b0 [0, 1, 5]))) (.seq (.reg none q155r0 [4]) (.ret))))
abbrev L_laws_eqClueS_0 (P : Program) (E : Env) (r : List RV) : Prop := Run P [.tmp 4] (.code q155b0 :: .lp q155b0 [0, 1, 5] :: [.blk 0, .code (.seq (.reg none q155r0 [4]) (.ret))]) E r
theorem k155 : chkF PP Tryz.f155 q155 [.tmp 4] = true := by kernel_rfl
theorem S_laws_eqClueS : SOf PP Tryz.f155 27 [.tmp 4] q155 F_laws_eqClueS := fun hs hn h => callsOK Tryz.func155 k155 hs hn h

def q156r0 := [gO 4 (.asg false (.c (.bool true)))]
def q156r1 := [gO 4 (.asg false (.c (.bool false)))]
def q156r2 := [gO 26 (.fld (.t 2) 9), gO 27 (.ld (.t 26)), gO 28 (.fld (.t 3) 9), gO 29 (.ld (.t 28)), gO 30 (.bin .neq (.t 27) (.t 29))]
def q156r3 := [gO 4 (.asg false (.c (.bool false)))]
def q156r4 := [gO 21 (.fld (.t 2) 8), gO 22 (.ld (.t 21)), gO 23 (.fld (.t 3) 8), gO 24 (.ld (.t 23)), gO 25 (.bin .neq (.t 22) (.t 24))]
def q156r5 := [gO 4 (.asg false (.c (.bool false)))]
def q156r6 := [gO 16 (.fld (.t 2) 7), gO 17 (.ld (.t 16)), gO 18 (.fld (.t 3) 7), gO 19 (.ld (.t 18)), gO 20 (.bin .neq (.t 17) (.t 19))]
def q156r7 := [gO 4 (.asg false (.c (.bool false)))]
def q156r8 := [gO 10 (.fld (.t 2) 1), gO 11 (.lda 6 (.t 10)), gO 12 (.fld (.t 3) 1), gO 13 (.lda 6 (.t 12)), gO 14 (.call F_laws_eqPuzzle [.t 11, .t 13]), gO 15 (.not (.t 14))]
def q156r9 := [gO 4 (.asg false (.c (.bool false)))]
def q156r10 := [gO 5 (.fld (.t 2) 0), gO 6 (.ld (.t 5)), gO 7 (.fld (.t 3) 0), gO 8 (.ld (.t 7)), gO 9 (.bin .neq (.t 6) (.t 8))]
def q156r11 := [gO 2 (.box (.t 0)), gO 3 (.box (.t 1)), gO 4 (.asg false (.c (.bool false)))]
def q156 : CC := .seq (.reg none q156r11 [2, 3]) (.seq (.seq (.reg none q156r10 [2, 3, 9]) (.cnd (.t 9) (.seq (.reg none q156r9 [4]) (.ret)) (.skip))) (.seq (.seq (.reg none q156r8 [2, 3, 15]) (.cnd (.t 15) (.seq (.reg none q156r7 [4]) (.ret)) (.skip))) (.seq (.seq (.reg none q156r6 [2, 3, 20]) (.cnd (.t 20) (.seq (.reg none q156r5 [4]) (.ret)) (.skip))) (.seq (.seq (.reg none q156r4 [2, 3, 25]) (.cnd (.t 25) (.seq (.reg none q156r3 [4]) (.ret)) (.skip))) (.seq (.seq (.reg none q156r2 [30]) (.cnd (.t 30) (.seq (.reg none q156r1 [4]) (.ret)) (.skip))) (.seq (.reg none q156r0 [4]) (.ret)))))))
theorem k156 : chkF PP Tryz.f156 q156 [.tmp 4] = true := by kernel_rfl
theorem S_laws_eqIssue : SOf PP Tryz.f156 31 [.tmp 4] q156 F_laws_eqIssue := fun hs hn h => callsOK Tryz.func156 k156 hs hn h

def q157r0 := [gO 4 (.asg false (.c (.bool true)))]
def q157r1 := [gO 4 (.asg false (.c (.bool false)))]
def q157r2 := [gO 10 (.fld (.t 2) 1), gO 11 (.ld (.t 10)), gO 12 (.fld (.t 3) 1), gO 13 (.ld (.t 12)), gO 14 (.bin .neq (.t 11) (.t 13))]
def q157r3 := [gO 4 (.asg false (.c (.bool false)))]
def q157r4 := [gO 5 (.fld (.t 2) 0), gO 6 (.ld (.t 5)), gO 7 (.fld (.t 3) 0), gO 8 (.ld (.t 7)), gO 9 (.bin .neq (.t 6) (.t 8))]
def q157r5 := [gO 2 (.box (.t 0)), gO 3 (.box (.t 1)), gO 4 (.asg false (.c (.bool false)))]
def q157 : CC := .seq (.reg none q157r5 [2, 3]) (.seq (.seq (.reg none q157r4 [2, 3, 9]) (.cnd (.t 9) (.seq (.reg none q157r3 [4]) (.ret)) (.skip))) (.seq (.seq (.reg none q157r2 [14]) (.cnd (.t 14) (.seq (.reg none q157r1 [4]) (.ret)) (.skip))) (.seq (.reg none q157r0 [4]) (.ret))))
theorem k157 : chkF PP Tryz.f157 q157 [.tmp 4] = true := by kernel_rfl
theorem S_laws_eqUsed : SOf PP Tryz.f157 15 [.tmp 4] q157 F_laws_eqUsed := fun hs hn h => callsOK Tryz.func157 k157 hs hn h

def q158r0 := [gO 4 (.asg false (.c (.bool true)))]
def q158r1 := [gO 4 (.asg false (.c (.bool false)))]
def q158r2 := [gO 21 (.fld (.t 2) 4), gO 22 (.ld (.t 21)), gO 23 (.fld (.t 3) 4), gO 24 (.ld (.t 23)), gO 25 (.bin .neq (.t 22) (.t 24))]
def q158r3 := [gO 4 (.asg false (.c (.bool false)))]
def q158r4 := [gO 15 (.fld (.t 2) 2), gO 16 (.lda 2 (.t 15)), gO 17 (.fld (.t 3) 2), gO 18 (.lda 2 (.t 17)), gO 19 (.call F_laws_eqClue [.t 16, .t 18]), gO 20 (.not (.t 19))]
def q158r5 := [gO 4 (.asg false (.c (.bool false)))]
def q158r6 := [gO 10 (.fld (.t 2) 1), gO 11 (.ld (.t 10)), gO 12 (.fld (.t 3) 1), gO 13 (.ld (.t 12)), gO 14 (.bin .neq (.t 11) (.t 13))]
def q158r7 := [gO 4 (.asg false (.c (.bool false)))]
def q158r8 := [gO 5 (.fld (.t 2) 0), gO 6 (.ld (.t 5)), gO 7 (.fld (.t 3) 0), gO 8 (.ld (.t 7)), gO 9 (.bin .neq (.t 6) (.t 8))]
def q158r9 := [gO 2 (.box (.t 0)), gO 3 (.box (.t 1)), gO 4 (.asg false (.c (.bool false)))]
def q158 : CC := .seq (.reg none q158r9 [2, 3]) (.seq (.seq (.reg none q158r8 [2, 3, 9]) (.cnd (.t 9) (.seq (.reg none q158r7 [4]) (.ret)) (.skip))) (.seq (.seq (.reg none q158r6 [2, 3, 14]) (.cnd (.t 14) (.seq (.reg none q158r5 [4]) (.ret)) (.skip))) (.seq (.seq (.reg none q158r4 [2, 3, 20]) (.cnd (.t 20) (.seq (.reg none q158r3 [4]) (.ret)) (.skip))) (.seq (.seq (.reg none q158r2 [25]) (.cnd (.t 25) (.seq (.reg none q158r1 [4]) (.ret)) (.skip))) (.seq (.reg none q158r0 [4]) (.ret))))))
theorem k158 : chkF PP Tryz.f158 q158 [.tmp 4] = true := by kernel_rfl
theorem S_laws_eqCorrection : SOf PP Tryz.f158 26 [.tmp 4] q158 F_laws_eqCorrection := fun hs hn h => callsOK Tryz.func158 k158 hs hn h

def q159r0 := [gO 4 (.asg false (.c (.bool true)))]
def q159r1 := [gO 4 (.asg false (.c (.bool false)))]
def q159r2 := [gO 20 (.fld (.t 2) 3), gO 21 (.ld (.t 20)), gO 22 (.fld (.t 3) 3), gO 23 (.ld (.t 22)), gO 24 (.bin .neq (.t 21) (.t 23))]
def q159r3 := [gO 4 (.asg false (.c (.bool false)))]
def q159r4 := [gO 15 (.fld (.t 2) 2), gO 16 (.ld (.t 15)), gO 17 (.fld (.t 3) 2), gO 18 (.ld (.t 17)), gO 19 (.bin .neq (.t 16) (.t 18))]
def q159r5 := [gO 4 (.asg false (.c (.bool false)))]
def q159r6 := [gO 10 (.fld (.t 2) 1), gO 11 (.ld (.t 10)), gO 12 (.fld (.t 3) 1), gO 13 (.ld (.t 12)), gO 14 (.bin .neq (.t 11) (.t 13))]
def q159r7 := [gO 4 (.asg false (.c (.bool false)))]
def q159r8 := [gO 5 (.fld (.t 2) 0), gO 6 (.ld (.t 5)), gO 7 (.fld (.t 3) 0), gO 8 (.ld (.t 7)), gO 9 (.bin .neq (.t 6) (.t 8))]
def q159r9 := [gO 2 (.box (.t 0)), gO 3 (.box (.t 1)), gO 4 (.asg false (.c (.bool false)))]
def q159 : CC := .seq (.reg none q159r9 [2, 3]) (.seq (.seq (.reg none q159r8 [2, 3, 9]) (.cnd (.t 9) (.seq (.reg none q159r7 [4]) (.ret)) (.skip))) (.seq (.seq (.reg none q159r6 [2, 3, 14]) (.cnd (.t 14) (.seq (.reg none q159r5 [4]) (.ret)) (.skip))) (.seq (.seq (.reg none q159r4 [2, 3, 19]) (.cnd (.t 19) (.seq (.reg none q159r3 [4]) (.ret)) (.skip))) (.seq (.seq (.reg none q159r2 [24]) (.cnd (.t 24) (.seq (.reg none q159r1 [4]) (.ret)) (.skip))) (.seq (.reg none q159r0 [4]) (.ret))))))
theorem k159 : chkF PP Tryz.f159 q159 [.tmp 4] = true := by kernel_rfl
theorem S_laws_eqEntry : SOf PP Tryz.f159 25 [.tmp 4] q159 F_laws_eqEntry := fun hs hn h => callsOK Tryz.func159 k159 hs hn h

def q160r0 := [gV 26 1, gO 4 (.asg true (.t 26))]
def q160r1 := [gV 10 5, gO 11 (.bin .add (.t 10) (xI 1)), gO 5 (.asg true (.t 11))]
def q160r2 := [gV 19 0, gV 20 5, gO 21 (.idx 2 (.t 19) (.t 20)), gO 22 (.fld (.t 21) 1), gO 23 (.ld (.t 22)), gV 24 1, gO 25 (.call F_laws_markStepS [.t 23, .t 24]), gO 1 (.asg true (.t 25))]
def q160r3 := [gV 17 1, gO 18 (.bin .add (.t 17) (xI 1)), gO 1 (.asg true (.t 18))]
def q160r4 := [gV 12 0, gV 13 5, gV 14 1, gO 15 (.idx 2 (.t 12) (.t 13)), gO 16 (.fld (.t 15) 0), gS (.sto 1 (.t 16) (.t 14))]
def q160r5 := [gV 6 5, gV 7 0, gO 8 (.len (.t 7)), gO 9 (.bin .lss (.t 6) (.t 8))]
def q160b0 : CC := .seq (.seq (.reg none q160r5 (nL [0, 1, 5, 9])) (.cnd (.t 9) (.skip) (.exit 0))) (.seq (.blk 1 (.seq (.reg none q160r4 (nL [0, 1, 5])) (.seq (.reg none q160r3 (nL [0, 1, 5])) (.reg none q160r2 (nL [0, 1, 5]))))) (.reg none q160r1 (nL [0, 1, 5])))
def q160r6 := [gO 5 (.asg false (xI 0))]
def q160r7 := [gO 4 (.asg false (xI 0))]
def q160 : CC := .seq (.reg none q160r7 (nL [0, 1])) (.seq (.seq (.reg none q160r6 (nL [0, 1, 5])) (.blk 0 (.loop q160b0 (nL [0, 1, 5])))) (.seq (.reg none q160r0 (nL [4])) (.ret)))
abbrev L_laws_markClueS_0 (P : Program) (Q : Env → Prop) (E : Env) : Prop := RunQ P Q (.code q160b0 :: .lp q160b0 (nL [0, 1, 5]) :: [.blk 0, .code (.seq (.reg none q160r0 (nL [4])) (.ret))]) E
theorem k160 : chkF PP Tryz.f160 q160 [.tmp 4] = true := by kernel_rfl
theorem SQ_laws_markClueS : SQOf PP Tryz.f160 27 [.tmp 4] q160 F_laws_markClueS := fun ni no hs hn hni hno h => callsH_of_run ni no Tryz.func160 k160 hs hn hni hno (fun u => h u _ (fun _ h => h))

def q161r0 := [gV 18 1, gO 4 (.asg true (.t 18))]
def q161r1 := [gV 10 5, gO 11 (.bin .add (.t 10) (xI 1)), gO 5 (.asg true (.t 11))]
def q161r2 := [gV 16 1, gO 17 (.bin .add (.t 16) (xI 1)), gO 1 (.asg true (.t 17))]
def q161r3 := [gV 12 0, gV 13 5, gV 14 1, gO 15 (.idx 1 (.t 12) (.t 13)), gS (.sto 1 (.t 15) (.t 14))]
def q161r4 := [gV 6 5, gV 7 0, gO 8 (.len (.t 7)), gO 9 (.bin .lss (.t 6) (.t 8))]
def q161b0 : CC := .seq (.seq (.reg none q161r4 (nL [0, 1, 5, 9])) (.cnd (.t 9) (.skip) (.exit 0))) (.seq (.blk 1 (.seq (.reg none q161r3 (nL [0, 1, 5])) (.reg none q161r2 (nL [0, 1, 5])))) (.reg none q161r1 (nL [0, 1, 5])))
def q161r5 := [gO 5 (.asg false (xI 0))]
def q161r6 := [gO 4 (.asg false (xI 0))]
def q161 : CC := .seq (.reg none q161r6 (nL [0, 1])) (.seq (.seq (.reg none q161r5 (nL [0, 1, 5])) (.blk 0 (.loop q161b0 (nL [0, 1, 5])))) (.seq (.reg none q161r0 (nL [4])) (.ret)))
abbrev L_laws_markIntS_0 (P : Program) (Q : Env → Prop) (E : Env) : Prop := RunQ P Q (.code q161b0 :: .lp q161b0 (nL [0, 1, 5]) :: [.blk 0, .code (.seq (.reg none q161r0 (nL [4])) (.ret))]) E
theorem k161 : chkF PP Tryz.f161 q161 [.tmp 4] = true := by kernel_rfl
theorem SQ_laws_markIntS : SQOf PP Tryz.f161 19 [.tmp 4] q161 F_laws_markIntS := fun ni no hs hn hni hno h => callsH_of_run ni no Tryz.func161 k161 hs hn hni hno (fun u => h u _ (fun _ h => h))

def q162r0 := [gV 30 1, gO 4 (.asg true (.t 30))]
def q162r1 := [gV 10 5, gO 11 (.bin .add (.t 10) (xI 1)), gO 5 (.asg true (.t 11))]
def q162r2 := [gO 4 (.asg false (.c (.int .i64 (-1))))]
def q162r3 := [gV 28 1, gO 29 (.bin .lss (.t 28) (xI 0))]
def q162r4 := [gV 21 0, gV 22 5, gO 23 (.idx 2 (.t 21) (.t 22)), gO 24 (.fld (.t 23) 1), gO 25 (.ld (.t 24)), gV 26 1, gO 27 (.call F_laws_heldStepS [.t 25, .t 26]), gO 1 (.asg true (.t 27))]
def q162r5 := [gV 19 1, gO 20 (.bin .add (.t 19) (xI 1)), gO 1 (.asg true (.t 20))]
def q162r6 := [gO 4 (.asg false (.c (.int .i64 (-1))))]
def q162r7 := [gV 12 0, gV 13 5, gO 14 (.idx 2 (.t 12) (.t 13)), gO 15 (.fld (.t 14) 0), gO 16 (.ld (.t 15)), gV 17 1, gO 18 (.bin .neq (.t 16) (.t 17))]
def q162r8 := [gV 6 5, gV 7 0, gO 8 (.len (.t 7)), gO 9 (.bin .lss (.t 6) (.t 8))]
def q162b0 : CC := .seq (.seq (.reg none q162r8 [0, 1, 5, 9]) (.cnd (.t 9) (.skip) (.exit 0))) (.seq (.blk 1 (.seq (.seq (.reg none q162r7 [0, 1, 5, 18]) (.cnd (.t 18) (.seq (.reg none q162r6 [4]) (.ret)) (.skip))) (.seq (.reg none q162r5 [0, 1, 5]) (.seq (.reg none q162r4 [0, 1, 5]) (.seq (.reg none q162r3 [0, 1, 5, 29]) (.cnd (.t 29) (.seq (.reg none q162r2 [4]) (.ret)) (.skip))))))) (.reg none q162r1 [0, 1, 5]))
def q162r9 := [gO 5 (.asg false (xI 0))]
def q162r10 := [gO 4 (.asg false (xI 0))]
def q162 : CC := .seq (.reg none q162r10 [0, 1]) (.seq (.seq (.reg none q162r9 [0, 1, 5]) (.blk 0 (.loop q162b0 [0, 1, 5]))) (.seq (.reg none q162r0 [4]) (.ret)))
abbrev L_laws_heldClueS_0 (P : Program) (E : Env) (r : List RV) : Prop := Run P [.tmp 4] (.code q162b0 :: .lp q162b0 [0, 1, 5] :: [.blk 0, .code (.seq (.reg none q162r0 [4]) (.ret))]) E r
theorem k162 : chkF PP Tryz.f162 q162 [.tmp 4] = true := by kernel_rfl
theorem S_laws_heldClueS : SOf PP Tryz.f162 31 [.tmp 4] q162 F_laws_heldClueS := fun hs hn h => callsOK Tryz.func162 k162 hs hn h

def q163r0 := [gV 20 1, gO 4 (.asg true (.t 20))]
def q163r1 := [gV 10 5, gO 11 (.bin .add (.t 10) (xI 1)), gO 5 (.asg true (.t 11))]
def q163r2 := [gV 18 1, gO 19 (.bin .add (.t 18) (xI 1)), gO 1 (.asg true (.t 19))]
def q163r3 := [gO 4 (.asg false (.c (.int .i64 (-1))))]
def q163r4 := [gV 12 0, gV 13 5, gO 14 (.idx 1 (.t 12) (.t 13)), gO 15 (.ld (.t 14)), gV 16 1, gO 17 (.bin .neq (.t 15) (.t 16))]
def q163r5 := [gV 6 5, gV 7 0, gO 8 (.len (.t 7)), gO 9 (.bin .lss (.t 6) (.t 8))]
def q163b0 : CC := .seq (.seq (.reg none q163r5 [0, 1, 5, 9]) (.cnd (.t 9) (.skip) (.exit 0))) (.seq (.blk 1 (.seq (.seq (.reg none q163r4 [0, 1, 5, 17]) (.cnd (.t 17) (.seq (.reg none q163r3 [4]) (.ret)) (.skip))) (.reg none q163r2 [0, 1, 5]))) (.reg none q163r1 [0, 1, 5]))
def q163r6 := [gO 5 (.asg false (xI 0))]
def q163r7 := [gO 4 (.asg false (xI 0))]
def q163 : CC := .seq (.reg none q163r7 [0, 1]) (.seq (.seq (.reg none q163r6 [0, 1, 5]) (.blk 0 (.loop q163b0 [0, 1, 5]))) (.seq (.reg none q163r0 [4]) (.ret)))
abbrev L_laws_heldIntS_0 (P : Program) (E : Env) (r : List RV) : Prop := Run P [.tmp 4] (.code q163b0 :: .lp q163b0 [0, 1, 5] :: [.blk 0, .code (.seq (.reg none q163r0 [4]) (.ret))]) E r
theorem k163 : chkF PP Tryz.f163 q163 [.tmp 4] = true := by kernel_rfl
theorem S_laws_heldIntS : SOf PP Tryz.f163 21 [.tmp 4] q163 F_laws_heldIntS := fun hs hn h => callsOK Tryz.func163 k163 hs hn h

def q164r0 := [gV 49 1, gO 4 (.asg true (.t 49))]
def q164r1 := [gV 10 5, gO 11 (.bin .add (.t 10) (xI 1)), gO 5 (.asg true (.t 11))]
def q164r2 := [gV 47 1, gO 48 (.bin .add (.t 47) (xI 1)), gO 1 (.asg true (.t 48))]
def q164r3 := [gO 4 (.asg false (.c (.int .i64 (-1))))]
def q164r4 := [gV 40 0, gV 41 5, gO 42 (.idx 4 (.t 40) (.t 41)), gO 43 (.fld (.t 42) 3), gO 44 (.ld (.t 43)), gV 45 1, gO 46 (.bin .neq (.t 44) (.t 45))]
def q164r5 := [gV 38 1, gO 39 (.bin .add (.t 38) (xI 1)), gO 1 (.asg true (.t 39))]
def q164r6 := [gO 4 (.asg false (.c (.int .i64 (-1))))]
def q164r7 := [gV 31 0, gV 32 5, gO 33 (.idx 4 (.t 31) (.t 32)), gO 34 (.fld (.t 33) 2), gO 35 (.ld (.t 34)), gV 36 1, gO 37 (.bin .neq (.t 35) (.t 36))]
def q164r8 := [gV 29 1, gO 30 (.bin .add (.t 29) (xI 1)), gO 1 (.asg true (.t 30))]
def q164r9 := [gO 4 (.asg false (.c (.int .i64 (-1))))]
def q164r10 := [gV 21 0, gV 22 5, gO 23 (.idx 4 (.t 21) (.t 22)), gO 24 (.fld (.t 23) 1), gO 25 (.ld (.t 24)), gV 26 1, gO 27 (.call F_laws_markText [.t 26]), gO 28 (.bin .neq (.t 25) (.t 27))]
def q164r11 := [gV 19 1, gO 20 (.bin .add (.t 19) (xI 1)), gO 1 (.asg true (.t 20))]
def q164r12 := [gO 4 (.asg false (.c (.int .i64 (-1))))]
def q164r13 := [gV 12 0, gV 13 5, gO 14 (.idx 4 (.t 12) (.t 13)), gO 15 (.fld (.t 14) 0), gO 16 (.ld (.t 15)), gV 17 1, gO 18 (.bin .neq (.t 16) (.t 17))]
def q164r14 := [gV 6 5, gV 7 0, gO 8 (.len (.t 7)), gO 9 (.bin .lss (.t 6) (.t 8))]
def q164b0 : CC := .seq (.seq (.reg none q164r14 [0, 1, 5, 9]) (.cnd (.t 9) (.skip) (.exit 0))) (.seq (.blk 1 (.seq (.seq (.reg none q164r13 [0, 1, 5, 18]) (.cnd (.t 18) (.seq (.reg none q164r12 [4]) (.ret)) (.skip))) (.seq (.reg none q164r11 [0, 1, 5]) (.seq (.seq (.reg (some (8, [[], [], [0, 1], [0, 1, 2], [0, 1, 2, 3], [], [5], [0, 1, 2, 3, 4, 5, 6]])) q164r10 [0, 1, 5, 28]) (.cnd (.t 28) (.seq (.reg none q164r9 [4]) (.ret)) (.skip))) (.seq (.reg none q164r8 [0, 1, 5]) (.seq (.seq (.reg none q164r7 [0, 1, 5, 37]) (.cnd (.t 37) (.seq (.reg none q164r6 [4]) (.ret)) (.skip))) (.seq (.reg none q164r5 [0, 1, 5]) (.seq (.seq (.reg none q164r4 [0, 1, 5, 46]) (.cnd (.t 46) (.seq (.reg none q164r3 [4]) (.ret)) (.skip))) (.reg none q164r2 [0, 1, 5]))))))))) (.reg none q164r1 [0, 1, 5]))
def q164r15 := [gO 5 (.asg false (xI 0))]
def q164r16 := [gO 4 (.asg false (xI 0))]
def q164 : CC := .seq (.reg none q164r16 [0, 1]) (.seq (.seq (.reg none q164r15 [0, 1, 5]) (.blk 0 (.loop q164b0 [0, 1, 5]))) (.seq (.reg none q164r0 [4]) (.ret)))
abbrev L_laws_heldStepS_0 (P : Program) (E : Env) (r : List RV) : Prop := Run P [.tmp 4] (.code q164b0 :: .lp q164b0 [0, 1, 5] :: [.blk 0, .code (.seq (.reg none q164r0 [4]) (.ret))]) E r
theorem k164 : chkF PP Tryz.f164 q164 [.tmp 4] = true := by kernel_rfl
theorem S_laws_heldStepS : SOf PP Tryz.f164 50 [.tmp 4] q164 F_laws_heldStepS := fun hs hn h => callsOK Tryz.func164 k164 hs hn h

def q165r0 := [gV 12 1, gO 4 (.asg true (.t 12))]
def q165r1 := [gO 4 (.asg false (.c (.int .i64 (-1))))]
def q165r2 := [gV 10 1, gO 11 (.bin .lss (.t 10) (xI 0))]
def q165r3 := [gV 5 1, gO 6 (.fld (.t 2) 2), gO 7 (.ld (.t 6)), gO 8 (.slen (.t 7)), gO 9 (.bin .sub (.t 5) (.t 8)), gO 1 (.asg true (.t 9))]
def q165r4 := [gO 2 (.box (.t 0)), gO 4 (.asg false (xI 0))]
def q165 : CC := .seq (.reg none q165r4 [1, 2]) (.seq (.reg none q165r3 [1]) (.seq (.seq (.reg none q165r2 [1, 11]) (.cnd (.t 11) (.seq (.reg none q165r1 [4]) (.ret)) (.skip))) (.seq (.reg none q165r0 [4]) (.ret))))
theorem k165 : chkF PP Tryz.f165 q165 [.tmp 4] = true := by kernel_rfl
theorem S_laws_szGrid : SOf PP Tryz.f165 13 [.tmp 4] q165 F_laws_szGrid := fun hs hn h => callsOK Tryz.func165 k165 hs hn h

def q166r0 := [gV 26 1, gO 4 (.asg true (.t 26))]
def q166r1 := [gV 16 5, gO 17 (.bin .add (.t 16) (xI 1)), gO 5 (.asg true (.t 17))]
def q166r2 := [gO 4 (.asg false (.c (.int .i64 (-1))))]
def q166r3 := [gV 24 1, gO 25 (.bin .lss (.t 24) (xI 0))]
def q166r4 := [gV 18 0, gV 19 5, gO 20 (.idx 2 (.t 18) (.t 19)), gO 21 (.lda 2 (.t 20)), gV 22 1, gO 23 (.call F_laws_szClue [.t 21, .t 22]), gO 1 (.asg true (.t 23))]
def q166r5 := [gV 12 5, gV 13 0, gO 14 (.len (.t 13)), gO 15 (.bin .lss (.t 12) (.t 14))]
def q166b0 : CC := .seq (.seq (.reg none q166r5 [0, 1, 5, 15]) (.cnd (.t 15) (.skip) (.exit 0))) (.seq (.blk 1 (.seq (.reg none q166r4 [0, 1, 5]) (.seq (.reg none q166r3 [0, 1, 5, 25]) (.cnd (.t 25) (.seq (.reg none q166r2 [4]) (.ret)) (.skip))))) (.reg none q166r1 [0, 1, 5]))
def q166r6 := [gO 5 (.asg false (xI 0))]
def q166r7 := [gO 4 (.asg false (.c (.int .i64 (-1))))]
def q166r8 := [gV 10 1, gO 11 (.bin .lss (.t 10) (xI 0))]
def q166r9 := [gV 6 1, gV 7 0, gO 8 (.len (.t 7)), gO 9 (.bin .sub (.t 6) (.t 8)), gO 1 (.asg true (.t 9))]
def q166r10 := [gO 4 (.asg false (xI 0))]
def q166 : CC := .seq (.reg none q166r10 [0, 1]) (.seq (.reg none q166r9 [0, 1]) (.seq (.seq (.reg none q166r8 [0, 1, 11]) (.cnd (.t 11) (.seq (.reg none q166r7 [4]) (.ret)) (.skip))) (.seq (.seq (.reg none q166r6 [0, 1, 5]) (.blk 0 (.loop q166b0 [0, 1, 5]))) (.seq (.reg none q166r0 [4]) (.ret)))))
abbrev L_laws_szClueS_0 (P : Program) (E : Env) (r : List RV) : Prop := Run P [.tmp 4] (.code q166b0 :: .lp q166b0 [0, 1, 5] :: [.blk 0, .code (.seq (.reg none q166r0 [4]) (.ret))]) E r
theorem k166 : chkF PP Tryz.f166 q166 [.tmp 4] = true := by kernel_rfl
theorem S_laws_szClueS : SOf PP Tryz.f166 27 [.tmp 4] q166 F_laws_szClueS := fun hs hn h => callsOK Tryz.func166 k166 hs hn h

def q167r0 := [gV 18 1, gO 4 (.asg true (.t 18))]
def q167r1 := [gO 4 (.asg false (.c (.int .i64 (-1))))]
def q167r2 := [gV 16 1, gO 17 (.bin .lss (.t 16) (xI 0))]
def q167r3 := [gV 11 1, gO 12 (.fld (.t 2) 7), gO 13 (.ld (.t 12)), gO 14 (.slen (.t 13)), gO 15 (.bin .sub (.t 11) (.t 14)), gO 1 (.asg true (.t 15))]
def q167r4 := [gO 4 (.asg false (.c (.int .i64 (-1))))]
def q167r5 := [gV 9 1, gO 10 (.bin .lss (.t 9) (xI 0))]
def q167r6 := [gO 5 (.fld (.t 2) 1), gO 6 (.lda 6 (.t 5)), gV 7 1, gO 8 (.call F_laws_szPuzzle [.t 6, .t 7]), gO 1 (.asg true (.t 8))]
def q167r7 := [gO 2 (.box (.t 0)), gO 4 (.asg false (xI 0))]
def q167 : CC := .seq (.reg none q167r7 [1, 2]) (.seq (.reg none q167r6 [1, 2]) (.seq (.seq (.reg none q167r5 [1, 2, 10]) (.cnd (.t 10) (.seq (.reg none q167r4 [4]) (.ret)) (.skip))) (.seq (.reg none q167r3 [1]) (.seq (.seq (.reg none q167r2 [1, 17]) (.cnd (.t 17) (.seq (.reg none q167r1 [4]) (.ret)) (.skip))) (.seq (.reg none q167r0 [4]) (.ret))))))
theorem k167 : chkF PP Tryz.f167 q167 [.tmp 4] = true := by kernel_rfl
theorem S_laws_szIssue : SOf PP Tryz.f167 19 [.tmp 4] q167 F_laws_szIssue := fun hs hn h => callsOK Tryz.func167 k167 hs hn h

def q168r0 := [gV 12 1, gO 4 (.asg true (.t 12))]
def q168r1 := [gO 4 (.asg false (.c (.int .i64 (-1))))]
def q168r2 := [gV 10 1, gO 11 (.bin .lss (.t 10) (xI 0))]
def q168r3 := [gV 5 1, gO 6 (.fld (.t 2) 0), gO 7 (.ld (.t 6)), gO 8 (.slen (.t 7)), gO 9 (.bin .sub (.t 5) (.t 8)), gO 1 (.asg true (.t 9))]
def q168r4 := [gO 2 (.box (.t 0)), gO 4 (.asg false (xI 0))]
def q168 : CC := .seq (.reg none q168r4 [1, 2]) (.seq (.reg none q168r3 [1]) (.seq (.seq (.reg none q168r2 [1, 11]) (.cnd (.t 11) (.seq (.reg none q168r1 [4]) (.ret)) (.skip))) (.seq (.reg none q168r0 [4]) (.ret))))
theorem k168 : chkF PP Tryz.f168 q168 [.tmp 4] = true := by kernel_rfl
theorem S_laws_szUsed : SOf PP Tryz.f168 13 [.tmp 4] q168 F_laws_szUsed := fun hs hn h => callsOK Tryz.func168 k168 hs hn h

def q169r0 := [gV 11 1, gO 4 (.asg true (.t 11))]
def q169r1 := [gO 4 (.asg false (.c (.int .i64 (-1))))]
def q169r2 := [gV 9 1, gO 10 (.bin .lss (.t 9) (xI 0))]
def q169r3 := [gO 5 (.fld (.t 2) 2), gO 6 (.lda 2 (.t 5)), gV 7 1, gO 8 (.call F_laws_szClue [.t 6, .t 7]), gO 1 (.asg true (.t 8))]
def q169r4 := [gO 2 (.box (.t 0)), gO 4 (.asg false (xI 0))]
def q169 : CC := .seq (.reg none q169r4 [1, 2]) (.seq (.reg none q169r3 [1]) (.seq (.seq (.reg none q169r2 [1, 10]) (.cnd (.t 10) (.seq (.reg none q169r1 [4]) (.ret)) (.skip))) (.seq (.reg none q169r0 [4]) (.ret))))
theorem k169 : chkF PP Tryz.f169 q169 [.tmp 4] = true := by kernel_rfl
theorem S_laws_szCorrection : SOf PP Tryz.f169 12 [.tmp 4] q169 F_laws_szCorrection := fun hs hn h => callsOK Tryz.func169 k169 hs hn h

def q170r0 := [gV 12 1, gO 4 (.asg true (.t 12))]
def q170r1 := [gO 4 (.asg false (.c (.int .i64 (-1))))]
def q170r2 := [gV 10 1, gO 11 (.bin .lss (.t 10) (xI 0))]
def q170r3 := [gV 5 1, gO 6 (.fld (.t 2) 3), gO 7 (.ld (.t 6)), gO 8 (.slen (.t 7)), gO 9 (.bin .sub (.t 5) (.t 8)), gO 1 (.asg true (.t 9))]
def q170r4 := [gO 2 (.box (.t 0)), gO 4 (.asg false (xI 0))]
def q170 : CC := .seq (.reg none q170r4 [1, 2]) (.seq (.reg none q170r3 [1]) (.seq (.seq (.reg none q170r2 [1, 11]) (.cnd (.t 11) (.seq (.reg none q170r1 [4]) (.ret)) (.skip))) (.seq (.reg none q170r0 [4]) (.ret))))
theorem k170 : chkF PP Tryz.f170 q170 [.tmp 4] = true := by kernel_rfl
theorem S_laws_szEntry : SOf PP Tryz.f170 13 [.tmp 4] q170 F_laws_szEntry := fun hs hn h => callsOK Tryz.func170 k170 hs hn h

def q171r0 := [gV 12 1, gO 4 (.asg true (.t 12))]
def q171r1 := [gO 4 (.asg false (.c (.int .i64 (-1))))]
def q171r2 := [gV 10 1, gO 11 (.bin .lss (.t 10) (xI 0))]
def q171r3 := [gV 5 1, gO 6 (.fld (.t 2) 1), gO 7 (.ld (.t 6)), gO 8 (.slen (.t 7)), gO 9 (.bin .sub (.t 5) (.t 8)), gO 1 (.asg true (.t 9))]
def q171r4 := [gO 2 (.box (.t 0)), gO 4 (.asg false (xI 0))]
def q171 : CC := .seq (.reg none q171r4 [1, 2]) (.seq (.reg none q171r3 [1]) (.seq (.seq (.reg none q171r2 [1, 11]) (.cnd (.t 11) (.seq (.reg none q171r1 [4]) (.ret)) (.skip))) (.seq (.reg none q171r0 [4]) (.ret))))
theorem k171 : chkF PP Tryz.f171 q171 [.tmp 4] = true := by kernel_rfl
theorem S_laws_szStep : SOf PP Tryz.f171 13 [.tmp 4] q171 F_laws_szStep := fun hs hn h => callsOK Tryz.func171 k171 hs hn h

def q172r0 := [gO 3 (.fld (.t 1) 0), gO 4 (.ld (.t 3)), gO 5 (.call F_spec_l1In [.t 4, .c (.int .i64 1), .c (.int .i64 99)]), gV 6 5, gY 7 6 (.fld (.t 1) 1), gY 8 6 (.ld (.t 7)), gY 9 6 (.call F_spec_IsPlay [.t 8]), gO 10 (.pick (.t 6) (.t 9) (.c (.bool false))), gO 2 (.asg true (.t 10))]
def q172r1 := [gO 1 (.box (.t 0)), gO 2 (.asg false (.c (.bool false)))]
def q172 : CC := .seq (.reg none q172r1 [1]) (.seq (.reg none q172r0 [2]) (.ret))
theorem k172 : chkF PP Tryz.f172 q172 [.tmp 2] = true := by kernel_rfl
theorem S_spec_IsClue : SOf PP Tryz.f172 11 [.tmp 2] q172 F_spec_IsClue := fun hs hn h => callsOK Tryz.func172 k172 hs hn h

def q173r0 := [gO 3 (.fld (.t 1) 0), gO 4 (.ld (.t 3)), gO 5 (.bslo T_impl_Step 4 40 []), gO 6 (.fld (.t 1) 1), gO 7 (.ld (.t 6)), gO 8 (.app T_impl_Step 4 40 (.t 5) (.t 7)), gO 9 (.bld [.int .i64 0, .sl 4 []] [(0, 1, .t 4), (1, 1, .t 8)]), gS (.sto 2 (.t 2) (.t 9))]
def q173r1 := [gO 1 (.box (.t 0)), gO 2 (.alc [.int .i64 0, .sl 4 []])]
def q173 : CC := .seq (.reg none q173r1 [1, 2]) (.seq (.any [[], [0], [], [], [3], [2, 3, 4], [0, 1, 2, 3, 4, 5], [0, 1, 2, 3, 4, 5, 6]] q173r0 [2]) (.ret))
theorem k173 : chkF PP Tryz.f173 q173 [.cella 2] = true := by kernel_rfl
theorem S_spec_l18Copy : SOf PP Tryz.f173 10 [.cella 2] q173 F_spec_l18Copy := fun hs hn h => callsOK Tryz.func173 k173 hs hn h

def q174r0 := [gO 13 (.lda 3 (.t 3)), gS (.sto 3 (.t 2) (.t 13))]
def q174r1 := [gO 10 (.fld (.t 1) 2), gO 11 (.ld (.t 10)), gO 12 (.fld (.t 3) 2), gS (.sto 1 (.t 12) (.t 11))]
def q174r2 := [gO 7 (.fld (.t 1) 1), gO 8 (.ld (.t 7)), gO 9 (.fld (.t 3) 1), gS (.sto 1 (.t 9) (.t 8))]
def q174r3 := [gO 4 (.fld (.t 1) 0), gO 5 (.ld (.t 4)), gO 6 (.fld (.t 3) 0), gS (.sto 1 (.t 6) (.t 5))]
def q174r4 := [gO 3 (.alc [.int .i64 0, .int .i64 0, .str []])]
def q174r5 := [gO 1 (.box (.t 0)), gO 2 (.alc [.int .i64 0, .int .i64 0, .str []])]
def q174 : CC := .seq (.reg none q174r5 [1, 2]) (.seq (.reg none q174r4 [1, 2, 3]) (.seq (.reg none q174r3 [1, 2, 3]) (.seq (.reg none q174r2 [1, 2, 3]) (.seq (.reg none q174r1 [2, 3]) (.seq (.reg none q174r0 [2]) (.ret))))))
theorem k174 : chkF PP Tryz.f174 q174 [.cella 2] = true := by kernel_rfl
theorem S_laws_toGrid : SOf PP Tryz.f174 14 [.cella 2] q174 F_laws_toGrid := fun hs hn h => callsOK Tryz.func174 k174 hs hn h

def q175r0 := [gV 22 3, gO 2 (.asg true (.t 22))]
def q175r1 := [gV 12 4, gO 13 (.bin .add (.t 12) (xI 1)), gO 4 (.asg true (.t 13))]
def q175r2 := [gV 14 3, gV 15 4, gV 16 0, gV 17 4, gO 18 (.idx 2 (.t 16) (.t 17)), gO 19 (.lda 2 (.t 18)), gO 20 (.call F_laws_toClue [.t 19]), gO 21 (.idx 2 (.t 14) (.t 15)), gS (.sto 2 (.t 21) (.t 20))]
def q175r3 := [gV 8 4, gV 9 0, gO 10 (.len (.t 9)), gO 11 (.bin .lss (.t 8) (.t 10))]
def q175b0 : CC := .seq (.seq (.reg none q175r3 (nL [0, 3, 4, 11])) (.cnd (.t 11) (.skip) (.exit 0))) (.seq (.blk 1 (.reg none q175r2 (nL [0, 3, 4]))) (.reg none q175r1 (nL [0, 3, 4])))
def q175r4 := [gO 4 (.asg false (xI 0))]
def q175r5 := [gV 5 0, gO 6 (.len (.t 5)), gO 7 (.mks T_impl_Clue 2 32 [.int .i64 0, .sl 4 []] (.t 6)), gO 3 (.asg true (.t 7))]
def q175r6 := [gO 2 (.nilo T_impl_Clue 2 32)]
def q175 : CC := .seq (.reg none q175r6 (nL [0])) (.seq (.reg none q175r5 (nL [0, 3])) (.seq (.seq (.reg none q175r4 (nL [0, 3, 4])) (.blk 0 (.loop q175b0 (nL [0, 3, 4])))) (.seq (.reg none q175r0 (nL [2])) (.ret))))
abbrev L_laws_toClueS_0 (P : Program) (Q : Env → Prop) (E : Env) : Prop := RunQ P Q (.code q175b0 :: .lp q175b0 (nL [0, 3, 4]) :: [.blk 0, .code (.seq (.reg none q175r0 (nL [2])) (.ret))]) E
theorem k175 : chkF PP Tryz.f175 q175 [.tmp 2] = true := by kernel_rfl
theorem SQ_laws_toClueS : SQOf PP Tryz.f175 23 [.tmp 2] q175 F_laws_toClueS := fun ni no hs hn hni hno h => callsH_of_run ni no Tryz.func175 k175 hs hn hni hno (fun u => h u _ (fun _ h => h))

def q176r0 := [gO 20 (.lda 10 (.t 3)), gS (.sto 10 (.t 2) (.t 20))]
def q176r1 := [gO 17 (.fld (.t 1) 9), gO 18 (.ld (.t 17)), gO 19 (.fld (.t 3) 9), gS (.sto 1 (.t 19) (.t 18))]
def q176r2 := [gO 14 (.fld (.t 1) 8), gO 15 (.ld (.t 14)), gO 16 (.fld (.t 3) 8), gS (.sto 1 (.t 16) (.t 15))]
def q176r3 := [gO 11 (.fld (.t 1) 7), gO 12 (.ld (.t 11)), gO 13 (.fld (.t 3) 7), gS (.sto 1 (.t 13) (.t 12))]
def q176r4 := [gO 7 (.fld (.t 1) 1), gO 8 (.lda 6 (.t 7)), gO 9 (.call F_laws_toPuzzle [.t 8]), gO 10 (.fld (.t 3) 1), gS (.sto 6 (.t 10) (.t 9))]
def q176r5 := [gO 4 (.fld (.t 1) 0), gO 5 (.ld (.t 4)), gO 6 (.fld (.t 3) 0), gS (.sto 1 (.t 6) (.t 5))]
def q176r6 := [gO 3 (.alc [.int .i64 0, .int .i64 0, .int .i64 0, .str [], .sl 2 [], .sl 1 [], .int .i64 0, .str [], .int .i64 0, .int .i64 0])]
def q176r7 := [gO 1 (.box (.t 0)), gO 2 (.alc [.int .i64 0, .int .i64 0, .int .i64 0, .str [], .sl 2 [], .sl 1 [], .int .i64 0, .str [], .int .i64 0, .int .i64 0])]
def q176 : CC := .seq (.reg none q176r7 (nL [1, 2])) (.seq (.reg none q176r6 (nL [1, 2, 3])) (.seq (.reg none q176r5 (nL [1, 2, 3])) (.seq (.reg none q176r4 (nL [1, 2, 3])) (.seq (.reg none q176r3 (nL [1, 2, 3])) (.seq (.reg none q176r2 (nL [1, 2, 3])) (.seq (.reg none q176r1 (nL [2, 3])) (.seq (.reg none q176r0 (nL [2])) (.ret))))))))
theorem k176 : chkF PP Tryz.f176 q176 [.cella 2] = true := by kernel_rfl
theorem SQ_laws_toIssue : SQOf PP Tryz.f176 21 [.cella 2] q176 F_laws_toIssue := fun ni no hs hn hni hno h => callsH_of_run ni no Tryz.func176 k176 hs hn hni hno (fun u => h u _ (fun _ h => h))

def q177r0 := [gO 10 (.lda 2 (.t 3)), gS (.sto 2 (.t 2) (.t 10))]
def q177r1 := [gO 7 (.fld (.t 1) 1), gO 8 (.ld (.t 7)), gO 9 (.fld (.t 3) 1), gS (.sto 1 (.t 9) (.t 8))]
def q177r2 := [gO 4 (.fld (.t 1) 0), gO 5 (.ld (.t 4)), gO 6 (.fld (.t 3) 0), gS (.sto 1 (.t 6) (.t 5))]
def q177r3 := [gO 3 (.alc [.str [], .int .i64 0])]
def q177r4 := [gO 1 (.box (.t 0)), gO 2 (.alc [.str [], .int .i64 0])]
def q177 : CC := .seq (.reg none q177r4 [1, 2]) (.seq (.reg none q177r3 [1, 2, 3]) (.seq (.reg none q177r2 [1, 2, 3]) (.seq (.reg none q177r1 [2, 3]) (.seq (.reg none q177r0 [2]) (.ret)))))
theorem k177 : chkF PP Tryz.f177 q177 [.cella 2] = true := by kernel_rfl
theorem S_laws_toUsed : SOf PP Tryz.f177 11 [.cella 2] q177 F_laws_toUsed := fun hs hn h => callsOK Tryz.func177 k177 hs hn h

def q178r0 := [gO 17 (.lda 5 (.t 3)), gS (.sto 5 (.t 2) (.t 17))]
def q178r1 := [gO 14 (.fld (.t 1) 4), gO 15 (.ld (.t 14)), gO 16 (.fld (.t 3) 4), gS (.sto 1 (.t 16) (.t 15))]
def q178r2 := [gO 10 (.fld (.t 1) 2), gO 11 (.lda 2 (.t 10)), gO 12 (.call F_laws_toClue [.t 11]), gO 13 (.fld (.t 3) 2), gS (.sto 2 (.t 13) (.t 12))]
def q178r3 := [gO 7 (.fld (.t 1) 1), gO 8 (.ld (.t 7)), gO 9 (.fld (.t 3) 1), gS (.sto 1 (.t 9) (.t 8))]
def q178r4 := [gO 4 (.fld (.t 1) 0), gO 5 (.ld (.t 4)), gO 6 (.fld (.t 3) 0), gS (.sto 1 (.t 6) (.t 5))]
def q178r5 := [gO 3 (.alc [.int .i64 0, .int .i64 0, .int .i64 0, .sl 4 [], .int .i64 0])]
def q178r6 := [gO 1 (.box (.t 0)), gO 2 (.alc [.int .i64 0, .int .i64 0, .int .i64 0, .sl 4 [], .int .i64 0])]
def q178 : CC := .seq (.reg none q178r6 (nL [1, 2])) (.seq (.reg none q178r5 (nL [1, 2, 3])) (.seq (.reg none q178r4 (nL [1, 2, 3])) (.seq (.reg none q178r3 (nL [1, 2, 3])) (.seq (.reg none q178r2 (nL [1, 2, 3])) (.seq (.reg none q178r1 (nL [2, 3])) (.seq (.reg none q178r0 (nL [2])) (.ret)))))))
theorem k178 : chkF PP Tryz.f178 q178 [.cella 2] = true := by kernel_rfl
theorem SQ_laws_toCorrection : SQOf PP Tryz.f178 18 [.cella 2] q178 F_laws_toCorrection := fun ni no hs hn hni hno h => callsH_of_run ni no Tryz.func178 k178 hs hn hni hno (fun u => h u _ (fun _ h => h))

def q179r0 := [gO 16 (.lda 4 (.t 3)), gS (.sto 4 (.t 2) (.t 16))]
def q179r1 := [gO 13 (.fld (.t 1) 3), gO 14 (.ld (.t 13)), gO 15 (.fld (.t 3) 3), gS (.sto 1 (.t 15) (.t 14))]
def q179r2 := [gO 10 (.fld (.t 1) 2), gO 11 (.ld (.t 10)), gO 12 (.fld (.t 3) 2), gS (.sto 1 (.t 12) (.t 11))]
def q179r3 := [gO 7 (.fld (.t 1) 1), gO 8 (.ld (.t 7)), gO 9 (.fld (.t 3) 1), gS (.sto 1 (.t 9) (.t 8))]
def q179r4 := [gO 4 (.fld (.t 1) 0), gO 5 (.ld (.t 4)), gO 6 (.fld (.t 3) 0), gS (.sto 1 (.t 6) (.t 5))]
def q179r5 := [gO 3 (.alc [.int .i64 0, .int .i64 0, .int .i64 0, .str []])]
def q179r6 := [gO 1 (.box (.t 0)), gO 2 (.alc [.int .i64 0, .int .i64 0, .int .i64 0, .str []])]
def q179 : CC := .seq (.reg none q179r6 [1, 2]) (.seq (.reg none q179r5 [1, 2, 3]) (.seq (.reg none q179r4 [1, 2, 3]) (.seq (.reg none q179r3 [1, 2, 3]) (.seq (.reg none q179r2 [1, 2, 3]) (.seq (.reg none q179r1 [2, 3]) (.seq (.reg none q179r0 [2]) (.ret)))))))
theorem k179 : chkF PP Tryz.f179 q179 [.cella 2] = true := by kernel_rfl
theorem S_laws_toEntry : SOf PP Tryz.f179 17 [.cella 2] q179 F_laws_toEntry := fun hs hn h => callsOK Tryz.func179 k179 hs hn h

def q180r0 := [gO 16 (.lda 4 (.t 3)), gS (.sto 4 (.t 2) (.t 16))]
def q180r1 := [gO 13 (.fld (.t 1) 3), gO 14 (.ld (.t 13)), gO 15 (.fld (.t 3) 3), gS (.sto 1 (.t 15) (.t 14))]
def q180r2 := [gO 10 (.fld (.t 1) 2), gO 11 (.ld (.t 10)), gO 12 (.fld (.t 3) 2), gS (.sto 1 (.t 12) (.t 11))]
def q180r3 := [gO 7 (.fld (.t 1) 1), gO 8 (.ld (.t 7)), gO 9 (.fld (.t 3) 1), gS (.sto 1 (.t 9) (.t 8))]
def q180r4 := [gO 4 (.fld (.t 1) 0), gO 5 (.ld (.t 4)), gO 6 (.fld (.t 3) 0), gS (.sto 1 (.t 6) (.t 5))]
def q180r5 := [gO 3 (.alc [.int .i64 0, .str [], .int .i64 0, .int .i64 0])]
def q180r6 := [gO 1 (.box (.t 0)), gO 2 (.alc [.int .i64 0, .str [], .int .i64 0, .int .i64 0])]
def q180 : CC := .seq (.reg none q180r6 [1, 2]) (.seq (.reg none q180r5 [1, 2, 3]) (.seq (.reg none q180r4 [1, 2, 3]) (.seq (.reg none q180r3 [1, 2, 3]) (.seq (.reg none q180r2 [1, 2, 3]) (.seq (.reg none q180r1 [2, 3]) (.seq (.reg none q180r0 [2]) (.ret)))))))
theorem k180 : chkF PP Tryz.f180 q180 [.cella 2] = true := by kernel_rfl
theorem S_laws_toStep : SOf PP Tryz.f180 17 [.cella 2] q180 F_laws_toStep := fun hs hn h => callsOK Tryz.func180 k180 hs hn h

def q181r0 := [gO 3 (.fld (.t 1) 0), gO 4 (.ld (.t 3)), gO 5 (.call F_impl_InRange [.t 4, .c (.int .i64 1), .c (.int .i64 99)]), gV 6 5, gY 7 6 (.fld (.t 1) 1), gY 8 6 (.ld (.t 7)), gY 9 6 (.call F_impl_IsPlay [.t 8]), gO 10 (.pick (.t 6) (.t 9) (.c (.bool false))), gO 2 (.asg true (.t 10))]
def q181r1 := [gO 1 (.box (.t 0)), gO 2 (.asg false (.c (.bool false)))]
def q181 : CC := .seq (.reg none q181r1 [1]) (.seq (.reg none q181r0 [2]) (.ret))
theorem k181 : chkF PP Tryz.f181 q181 [.tmp 2] = true := by kernel_rfl
theorem S_impl_IsClue : SOf PP Tryz.f181 11 [.tmp 2] q181 F_impl_IsClue := fun hs hn h => callsOK Tryz.func181 k181 hs hn h

def q182r0 := [gO 4 (.asg false (.c (.bool true)))]
def q182r1 := [gO 4 (.asg false (.c (.bool false)))]
def q182r2 := [gO 20 (.fld (.t 2) 3), gO 21 (.ld (.t 20)), gO 22 (.fld (.t 3) 3), gO 23 (.ld (.t 22)), gO 24 (.bin .neq (.t 21) (.t 23))]
def q182r3 := [gO 4 (.asg false (.c (.bool false)))]
def q182r4 := [gO 15 (.fld (.t 2) 2), gO 16 (.ld (.t 15)), gO 17 (.fld (.t 3) 2), gO 18 (.ld (.t 17)), gO 19 (.bin .neq (.t 16) (.t 18))]
def q182r5 := [gO 4 (.asg false (.c (.bool false)))]
def q182r6 := [gO 10 (.fld (.t 2) 1), gO 11 (.ld (.t 10)), gO 12 (.fld (.t 3) 1), gO 13 (.ld (.t 12)), gO 14 (.bin .neq (.t 11) (.t 13))]
def q182r7 := [gO 4 (.asg false (.c (.bool false)))]
def q182r8 := [gO 5 (.fld (.t 2) 0), gO 6 (.ld (.t 5)), gO 7 (.fld (.t 3) 0), gO 8 (.ld (.t 7)), gO 9 (.bin .neq (.t 6) (.t 8))]
def q182r9 := [gO 2 (.box (.t 0)), gO 3 (.box (.t 1)), gO 4 (.asg false (.c (.bool false)))]
def q182 : CC := .seq (.reg none q182r9 [2, 3]) (.seq (.seq (.reg none q182r8 [2, 3, 9]) (.cnd (.t 9) (.seq (.reg none q182r7 [4]) (.ret)) (.skip))) (.seq (.seq (.reg none q182r6 [2, 3, 14]) (.cnd (.t 14) (.seq (.reg none q182r5 [4]) (.ret)) (.skip))) (.seq (.seq (.reg none q182r4 [2, 3, 19]) (.cnd (.t 19) (.seq (.reg none q182r3 [4]) (.ret)) (.skip))) (.seq (.seq (.reg none q182r2 [24]) (.cnd (.t 24) (.seq (.reg none q182r1 [4]) (.ret)) (.skip))) (.seq (.reg none q182r0 [4]) (.ret))))))
theorem k182 : chkF PP Tryz.f182 q182 [.tmp 4] = true := by kernel_rfl
theorem S_laws_eqStep : SOf PP Tryz.f182 25 [.tmp 4] q182 F_laws_eqStep := fun hs hn h => callsOK Tryz.func182 k182 hs hn h

def q183r0 := [gV 52 3, gO 2 (.asg true (.t 52))]
def q183r1 := [gV 18 5, gO 19 (.bin .add (.t 18) (xI 1)), gO 5 (.asg true (.t 19))]
def q183r2 := [gV 45 3, gV 46 4, gV 47 5, gV 48 7, gO 49 (.bld [.int .i64 0, .bool false, .int .i64 0, .int .i64 0] [(0, 1, .t 46), (1, 1, .c (.bool true)), (2, 1, .t 47), (3, 1, .t 48)]), gO 50 (.bsl 4 [.t 49]), gO 51 (.app T_impl_Slot 4 32 (.t 45) (.t 50)), gO 3 (.asg true (.t 51))]
def q183r3 := [gV 43 7, gO 44 (.bin .geq (.t 43) (xI 2))]
def q183r4 := [gV 36 3, gV 37 4, gV 38 5, gV 39 6, gO 40 (.bld [.int .i64 0, .bool false, .int .i64 0, .int .i64 0] [(0, 1, .t 37), (2, 1, .t 38), (3, 1, .t 39)]), gO 41 (.bsl 4 [.t 40]), gO 42 (.app T_impl_Slot 4 32 (.t 36) (.t 41)), gO 3 (.asg true (.t 42))]
def q183r5 := [gV 34 6, gO 35 (.bin .geq (.t 34) (xI 2))]
def q183r6 := [gV 32 4, gO 33 (.bin .add (.t 32) (xI 1)), gO 4 (.asg true (.t 33))]
def q183r7 := [gV 26 6, gO 27 (.bin .geq (.t 26) (xI 2)), gV 28 27, gN 29 28 (.mv (.t 7)), gN 30 28 (.bin .geq (.t 29) (xI 2)), gO 31 (.pick (.t 28) (.c (.bool true)) (.t 30))]
def q183r8 := [gO 23 (.lda 3 (.t 1)), gV 24 5, gO 25 (.call F_spec_l8From [.t 23, .t 24, .c (.bool true)]), gO 7 (.asg true (.t 25))]
def q183r9 := [gO 20 (.lda 3 (.t 1)), gV 21 5, gO 22 (.call F_spec_l8From [.t 20, .t 21, .c (.bool false)]), gO 6 (.asg true (.t 22))]
def q183r10 := [gV 9 5, gO 10 (.fld (.t 1) 2), gO 11 (.ld (.t 10)), gO 12 (.slen (.t 11)), gO 13 (.bin .lss (.t 9) (.t 12)), gV 14 13, gY 15 14 (.lda 3 (.t 1)), gY 16 14 (.call F_spec_IsGrid [.t 15]), gO 17 (.pick (.t 14) (.t 16) (.c (.bool false)))]
def q183b0 : CC := .seq (.seq (.reg none q183r10 [1, 3, 4, 5, 17]) (.cnd (.t 17) (.skip) (.exit 0))) (.seq (.blk 1 (.seq (.reg none q183r9 [1, 3, 4, 5, 6]) (.seq (.reg none q183r8 [1, 3, 4, 5, 6, 7]) (.seq (.seq (.reg none q183r7 [1, 3, 4, 5, 6, 7, 31]) (.cnd (.t 31) (.reg none q183r6 [1, 3, 4, 5, 6, 7]) (.skip))) (.seq (.seq (.reg none q183r5 [1, 3, 4, 5, 6, 7, 35]) (.cnd (.t 35) (.reg none q183r4 [1, 3, 4, 5, 7]) (.skip))) (.seq (.reg none q183r3 [1, 3, 4, 5, 7, 44]) (.cnd (.t 44) (.reg none q183r2 [1, 3, 4, 5]) (.skip)))))))) (.reg none q183r1 [1, 3, 4, 5]))
def q183r11 := [gO 5 (.asg false (xI 0))]
def q183r12 := [gO 4 (.asg false (xI 0))]
def q183r13 := [gO 8 (.bslo T_impl_Slot 4 32 []), gO 3 (.asg true (.t 8))]
def q183r14 := [gO 1 (.box (.t 0)), gO 2 (.nilo T_impl_Slot 4 32)]
def q183 : CC := .seq (.reg none q183r14 [1]) (.seq (.reg none q183r13 [1, 3]) (.seq (.reg none q183r12 [1, 3, 4]) (.seq (.seq (.reg none q183r11 [1, 3, 4, 5]) (.blk 0 (.loop q183b0 [1, 3, 4, 5]))) (.seq (.reg none q183r0 [2]) (.ret)))))
abbrev L_spec_SlotsOf_0 (P : Program) (E : Env) (r : List RV) : Prop := Run P [.tmp 2] (.code q183b0 :: .lp q183b0 [1, 3, 4, 5] :: [.blk 0, .code (.seq (.reg none q183r0 [2]) (.ret))]) E r
theorem k183 : chkF PP Tryz.f183 q183 [.tmp 2] = true := by kernel_rfl
theorem S_spec_SlotsOf : SOf PP Tryz.f183 53 [.tmp 2] q183 F_spec_SlotsOf := fun hs hn h => callsOK Tryz.func183 k183 hs hn h

def q184r0 := [gO 2 (.asg false (.c (.bool true)))]
def q184r1 := [gV 12 3, gO 13 (.bin .add (.t 12) (xI 1)), gO 3 (.asg true (.t 13))]
def q184r2 := [gO 2 (.asg false (.c (.bool false)))]
def q184r3 := [gV 14 0, gV 15 3, gO 16 (.sidx (.t 14) (.t 15)), gO 17 (.bin .lss (.t 16) (.c (.int .u8 97))), gV 18 17, gN 19 18 (.mv (.t 0)), gN 20 18 (.mv (.t 3)), gN 21 18 (.sidx (.t 19) (.t 20)), gN 22 18 (.bin .gtr (.t 21) (.c (.int .u8 122))), gO 23 (.pick (.t 18) (.c (.bool true)) (.t 22))]
def q184r4 := [gV 8 3, gV 9 0, gO 10 (.slen (.t 9)), gO 11 (.bin .lss (.t 8) (.t 10))]
def q184b0 : CC := .seq (.seq (.reg none q184r4 [0, 3, 11]) (.cnd (.t 11) (.skip) (.exit 0))) (.seq (.blk 1 (.seq (.reg none q184r3 [0, 3, 23]) (.cnd (.t 23) (.seq (.reg none q184r2 [2]) (.ret)) (.skip)))) (.reg none q184r1 [0, 3]))
def q184r5 := [gO 3 (.asg false (xI 0))]
def q184r6 := [gO 2 (.asg false (.c (.bool false)))]
def q184r7 := [gV 4 0, gO 5 (.slen (.t 4)), gO 6 (.call F_spec_l1In [.t 5, .c (.int .i64 1), .c (.int .i64 8)]), gO 7 (.not (.t 6))]
def q184r8 := [gO 2 (.asg false (.c (.bool false)))]
def q184 : CC := .seq (.reg none q184r8 [0]) (.seq (.seq (.reg none q184r7 [0, 7]) (.cnd (.t 7) (.seq (.reg none q184r6 [2]) (.ret)) (.skip))) (.seq (.seq (.reg none q184r5 [0, 3]) (.blk 0 (.loop q184b0 [0, 3]))) (.seq (.reg none q184r0 [2]) (.ret))))
abbrev L_spec_IsWord_0 (P : Program) (E : Env) (r : List RV) : Prop := Run P [.tmp 2] (.code q184b0 :: .lp q184b0 [0, 3] :: [.blk 0, .code (.seq (.reg none q184r0 [2]) (.ret))]) E r
theorem k184 : chkF PP Tryz.f184 q184 [.tmp 2] = true := by kernel_rfl
theorem S_spec_IsWord : SOf PP Tryz.f184 24 [.tmp 2] q184 F_spec_IsWord := fun hs hn h => callsOK Tryz.func184 k184 hs hn h

def q185r0 := [gV 49 5, gO 4 (.asg true (.t 49))]
def q185r1 := [gV 16 7, gO 17 (.bin .add (.t 16) (xI 1)), gO 7 (.asg true (.t 17))]
def q185r2 := [gV 28 8, gO 29 (.bin .add (.t 28) (xI 1)), gO 8 (.asg true (.t 29))]
def q185r3 := [gV 32 5, gO 33 (.fld (.t 3) 2), gO 34 (.ld (.t 33)), gV 35 8, gO 36 (.fld (.t 2) 1), gO 37 (.ld (.t 36)), gO 38 (.bin .mul (.t 35) (.t 37)), gO 39 (.bin .add (.t 34) (.t 38)), gO 40 (.bsl 1 [.t 39]), gO 41 (.app T_int 1 8 (.t 32) (.t 40)), gO 5 (.asg true (.t 41))]
def q185r4 := [gV 42 5, gO 43 (.fld (.t 3) 2), gO 44 (.ld (.t 43)), gV 45 8, gO 46 (.bin .add (.t 44) (.t 45)), gO 47 (.bsl 1 [.t 46]), gO 48 (.app T_int 1 8 (.t 42) (.t 47)), gO 5 (.asg true (.t 48))]
def q185r5 := [gO 30 (.fld (.t 3) 1), gO 31 (.ld (.t 30))]
def q185r6 := [gV 24 8, gO 25 (.fld (.t 3) 3), gO 26 (.ld (.t 25)), gO 27 (.bin .lss (.t 24) (.t 26))]
def q185b1 : CC := .seq (.seq (.reg none q185r6 [2, 3, 5, 6, 7, 8, 27]) (.cnd (.t 27) (.skip) (.exit 2))) (.seq (.blk 3 (.seq (.reg none q185r5 [2, 3, 5, 6, 7, 8, 31]) (.cnd (.t 31) (.reg none q185r3 [2, 3, 5, 6, 7, 8]) (.reg none q185r4 [2, 3, 5, 6, 7, 8])))) (.reg none q185r2 [2, 3, 5, 6, 7, 8]))
def q185r7 := [gO 8 (.asg false (xI 0))]
def q185r8 := [gV 18 6, gV 19 7, gO 20 (.idx 4 (.t 18) (.t 19)), gO 21 (.lda 4 (.t 20)), gO 22 (.lda 4 (.t 3)), gO 23 (.eqa [.int, .bool, .int, .int] true (.t 21) (.t 22))]
def q185r9 := [gV 12 7, gV 13 6, gO 14 (.len (.t 13)), gO 15 (.bin .lss (.t 12) (.t 14))]
def q185b0 : CC := .seq (.seq (.reg none q185r9 [2, 3, 5, 6, 7, 15]) (.cnd (.t 15) (.skip) (.exit 0))) (.seq (.blk 1 (.seq (.seq (.reg (some (6, [[], [], [0, 1], [0, 1, 2], [], [0, 1, 2, 3, 4]])) q185r8 [2, 3, 5, 6, 7, 23]) (.cnd (.t 23) (.exit 1) (.skip))) (.seq (.reg none q185r7 [2, 3, 5, 6, 7, 8]) (.blk 2 (.loop q185b1 [2, 3, 5, 6, 7, 8]))))) (.reg none q185r1 [2, 3, 5, 6, 7]))
def q185r10 := [gO 7 (.asg false (xI 0))]
def q185r11 := [gO 10 (.lda 3 (.t 2)), gO 11 (.call F_spec_SlotsOf [.t 10]), gO 6 (.asg true (.t 11))]
def q185r12 := [gO 9 (.bslo T_int 1 8 []), gO 5 (.asg true (.t 9))]
def q185r13 := [gO 2 (.box (.t 0)), gO 3 (.box (.t 1)), gO 4 (.nilo T_int 1 8)]
def q185 : CC := .seq (.reg none q185r13 [2, 3]) (.seq (.reg none q185r12 [2, 3, 5]) (.seq (.reg none q185r11 [2, 3, 5, 6]) (.seq (.seq (.reg none q185r10 [2, 3, 5, 6, 7]) (.blk 0 (.loop q185b0 [2, 3, 5, 6, 7]))) (.seq (.reg none q185r0 [4]) (.ret)))))
abbrev L_spec_CellsOf_1 (P : Program) (E : Env) (r : List RV) : Prop := Run P [.tmp 4] (.code q185b1 :: .lp q185b1 [2, 3, 5, 6, 7, 8] :: [.blk 2, .blk 1, .code (.reg none q185r1 [2, 3, 5, 6, 7]), .lp q185b0 [2, 3, 5, 6, 7], .blk 0, .code (.seq (.reg none q185r0 [4]) (.ret))]) E r
abbrev L_spec_CellsOf_0 (P : Program) (E : Env) (r : List RV) : Prop := Run P [.tmp 4] (.code q185b0 :: .lp q185b0 [2, 3, 5, 6, 7] :: [.blk 0, .code (.seq (.reg none q185r0 [4]) (.ret))]) E r
theorem k185 : chkF PP Tryz.f185 q185 [.tmp 4] = true := by kernel_rfl
theorem S_spec_CellsOf : SOf PP Tryz.f185 50 [.tmp 4] q185 F_spec_CellsOf := fun hs hn h => callsOK Tryz.func185 k185 hs hn h

def q186r0 := [gV 20 3, gO 2 (.asg true (.t 20))]
def q186r1 := [gO 19 (.bin .add (.t 9) (xI 1)), gV 9 19]
def q186r2 := [gV 13 3, gO 14 (.lda 3 (.t 1)), gO 15 (.lda 4 (.t 5)), gO 16 (.call F_impl_cells [.t 14, .t 15]), gO 17 (.bsl 1 [.t 16]), gO 18 (.app T_sl_int 1 24 (.t 13) (.t 17)), gO 3 (.asg true (.t 18))]
def q186r3 := [gO 11 (.idx 4 (.t 7) (.t 9)), gO 12 (.lda 4 (.t 11)), gO 5 (.alc [.int .i64 0, .bool false, .int .i64 0, .int .i64 0]), gS (.sto 4 (.t 5) (.t 12))]
def q186r4 := [gO 10 (.bin .lss (.t 9) (.t 8))]
def q186b0 : CC := .seq (.reg none q186r4 [1, 3, 7, 8, 9, 10]) (.seq (.cnd (.t 10) (.skip) (.exit 0)) (.seq (.blk 1 (.seq (.reg none q186r3 [1, 3, 5, 7, 8, 9]) (.reg none q186r2 [1, 3, 7, 8, 9]))) (.reg none q186r1 [1, 3, 7, 8, 9])))
def q186r5 := [gO 6 (.lda 3 (.t 1)), gO 7 (.call F_impl_SlotsOf [.t 6]), gO 8 (.len (.t 7)), gO 9 (.mv (xI 0))]
def q186r6 := [gO 3 (.nilo T_sl_int 1 24)]
def q186r7 := [gO 1 (.box (.t 0)), gO 2 (.nilo T_sl_int 1 24)]
def q186 : CC := .seq (.reg none q186r7 [1]) (.seq (.reg none q186r6 [1, 3]) (.seq (.seq (.reg none q186r5 [1, 3, 7, 8, 9]) (.blk 0 (.loop q186b0 [1, 3, 7, 8, 9]))) (.seq (.reg none q186r0 [2]) (.ret))))
abbrev L_impl_layout_0 (P : Program) (E : Env) (r : List RV) : Prop := Run P [.tmp 2] (.code q186b0 :: .lp q186b0 [1, 3, 7, 8, 9] :: [.blk 0, .code (.seq (.reg none q186r0 [2]) (.ret))]) E r
theorem k186 : chkF PP Tryz.f186 q186 [.tmp 2] = true := by kernel_rfl
theorem S_impl_layout : SOf PP Tryz.f186 21 [.tmp 2] q186 F_impl_layout := fun hs hn h => callsOK Tryz.func186 k186 hs hn h

def q187r0 := [gO 2 (.asg false (.c (.bool true)))]
def q187r1 := [gO 18 (.bin .add (.t 10) (xI 1)), gV 10 18]
def q187r2 := [gO 2 (.asg false (.c (.bool false)))]
def q187r3 := [gV 13 0, gV 14 3, gO 15 (.sidx (.t 13) (.t 14)), gO 16 (.call F_impl_isLetter [.t 15]), gO 17 (.not (.t 16))]
def q187r4 := [gV 12 10, gO 3 (.asg true (.t 12))]
def q187r5 := [gO 11 (.bin .lss (.t 10) (.t 9))]
def q187b0 : CC := .seq (.reg none q187r5 [0, 9, 10, 11]) (.seq (.cnd (.t 11) (.skip) (.exit 0)) (.seq (.blk 1 (.seq (.reg none q187r4 [0, 3, 9, 10]) (.seq (.reg none q187r3 [0, 9, 10, 17]) (.cnd (.t 17) (.seq (.reg none q187r2 [2]) (.ret)) (.skip))))) (.reg none q187r1 [0, 9, 10])))
def q187r6 := [gV 8 0, gO 9 (.slen (.t 8)), gO 10 (.mv (xI 0))]
def q187r7 := [gO 2 (.asg false (.c (.bool false)))]
def q187r8 := [gV 4 0, gO 5 (.slen (.t 4)), gO 6 (.call F_impl_InRange [.t 5, .c (.int .i64 1), .c (.int .i64 8)]), gO 7 (.not (.t 6))]
def q187r9 := [gO 2 (.asg false (.c (.bool false)))]
def q187 : CC := .seq (.reg none q187r9 [0]) (.seq (.seq (.reg none q187r8 [0, 7]) (.cnd (.t 7) (.seq (.reg none q187r7 [2]) (.ret)) (.skip))) (.seq (.seq (.reg none q187r6 [0, 9, 10]) (.blk 0 (.loop q187b0 [0, 9, 10]))) (.seq (.reg none q187r0 [2]) (.ret))))
abbrev L_impl_IsWord_0 (P : Program) (E : Env) (r : List RV) : Prop := Run P [.tmp 2] (.code q187b0 :: .lp q187b0 [0, 9, 10] :: [.blk 0, .code (.seq (.reg none q187r0 [2]) (.ret))]) E r
theorem k187 : chkF PP Tryz.f187 q187 [.tmp 2] = true := by kernel_rfl
theorem S_impl_IsWord : SOf PP Tryz.f187 19 [.tmp 2] q187 F_impl_IsWord := fun hs hn h => callsOK Tryz.func187 k187 hs hn h

def q190r0 := [gO 4 (.asg false (.c (.bool true)))]
def q190r1 := [gV 22 5, gO 23 (.bin .add (.t 22) (xI 1)), gO 5 (.asg true (.t 23))]
def q190r2 := [gO 4 (.asg false (.c (.bool false)))]
def q190r3 := [gO 40 (.fld (.t 2) 2), gO 41 (.ld (.t 40)), gV 42 5, gO 43 (.sidx (.t 41) (.t 42)), gO 44 (.bin .eql (.t 43) (.c (.int .u8 35))), gV 45 44, gY 46 45 (.mv (.t 1)), gY 47 45 (.mv (.t 5)), gY 48 45 (.sidx (.t 46) (.t 47)), gY 49 45 (.bin .neq (.t 48) (.c (.int .u8 35))), gO 50 (.pick (.t 45) (.t 49) (.c (.bool false))), gV 51 50, gN 52 51 (.fld (.t 2) 2), gN 53 51 (.ld (.t 52)), gN 54 51 (.mv (.t 5)), gN 55 51 (.sidx (.t 53) (.t 54)), gN 56 51 (.bin .eql (.t 55) (.c (.int .u8 46))), gN 57 51 (.mv (.t 56)), gY 58 57 (.mv (.t 6)), gY 59 57 (.not (.t 58)), gN 60 51 (.pick (.t 57) (.t 59) (.c (.bool false))), gO 61 (.pick (.t 51) (.c (.bool true)) (.t 60))]
def q190r4 := [gV 24 1, gV 25 5, gO 26 (.sidx (.t 24) (.t 25)), gO 27 (.bin .eql (.t 26) (.c (.int .u8 63))), gV 28 27, gN 29 28 (.mv (.t 1)), gN 30 28 (.mv (.t 5)), gN 31 28 (.sidx (.t 29) (.t 30)), gN 32 28 (.bin .geq (.t 31) (.c (.int .u8 97))), gN 33 28 (.mv (.t 32)), gY 34 33 (.mv (.t 1)), gY 35 33 (.mv (.t 5)), gY 36 33 (.sidx (.t 34) (.t 35)), gY 37 33 (.bin .leq (.t 36) (.c (.int .u8 122))), gN 38 28 (.pick (.t 33) (.t 37) (.c (.bool false))), gO 39 (.pick (.t 28) (.c (.bool true)) (.t 38)), gO 6 (.asg true (.t 39))]
def q190r5 := [gV 18 5, gV 19 1, gO 20 (.slen (.t 19)), gO 21 (.bin .lss (.t 18) (.t 20))]
def q190b0 : CC := .seq (.seq (.reg none q190r5 [1, 2, 5, 21]) (.cnd (.t 21) (.skip) (.exit 0))) (.seq (.blk 1 (.seq (.reg none q190r4 [1, 2, 5, 6]) (.seq (.reg none q190r3 [1, 2, 5, 61]) (.cnd (.t 61) (.seq (.reg none q190r2 [4]) (.ret)) (.skip))))) (.reg none q190r1 [1, 2, 5]))
def q190r6 := [gO 5 (.asg false (xI 0))]
def q190r7 := [gO 4 (.asg false (.c (.bool false)))]
def q190r8 := [gO 7 (.lda 3 (.t 2)), gO 8 (.call F_spec_IsGrid [.t 7]), gO 9 (.not (.t 8)), gV 10 9, gN 11 10 (.mv (.t 1)), gN 12 10 (.slen (.t 11)), gN 13 10 (.fld (.t 2) 2), gN 14 10 (.ld (.t 13)), gN 15 10 (.slen (.t 14)), gN 16 10 (.bin .neq (.t 12) (.t 15)), gO 17 (.pick (.t 10) (.c (.bool true)) (.t 16))]
def q190r9 := [gO 2 (.box (.t 0)), gO 4 (.asg false (.c (.bool false)))]
def q190 : CC := .seq (.reg none q190r9 [1, 2]) (.seq (.seq (.reg none q190r8 [1, 2, 17]) (.cnd (.t 17) (.seq (.reg none q190r7 [4]) (.ret)) (.skip))) (.seq (.seq (.reg none q190r6 [1, 2, 5]) (.blk 0 (.loop q190b0 [1, 2, 5]))) (.seq (.reg none q190r0 [4]) (.ret))))
abbrev L_spec_IsFill_0 (P : Program) (E : Env) (r : List RV) : Prop := Run P [.tmp 4] (.code q190b0 :: .lp q190b0 [1, 2, 5] :: [.blk 0, .code (.seq (.reg none q190r0 [4]) (.ret))]) E r
theorem k190 : chkF PP Tryz.f190 q190 [.tmp 4] = true := by kernel_rfl
theorem S_spec_IsFill : SOf PP Tryz.f190 62 [.tmp 4] q190 F_spec_IsFill := fun hs hn h => callsOK Tryz.func190 k190 hs hn h

def q192r0 := [gO 4 (.asg false (.c (.bool true)))]
def q192r1 := [gO 51 (.bin .add (.t 19) (xI 1)), gV 19 51]
def q192r2 := [gO 4 (.asg false (.c (.bool false)))]
def q192r3 := [gO 22 (.fld (.t 2) 2), gO 23 (.ld (.t 22)), gV 24 5, gO 25 (.sidx (.t 23) (.t 24)), gO 26 (.bin .eql (.t 25) (.c (.int .u8 35))), gV 27 1, gV 28 5, gO 29 (.sidx (.t 27) (.t 28)), gO 30 (.bin .eql (.t 29) (.c (.int .u8 35))), gO 31 (.eqb true (.t 26) (.t 30)), gV 32 31, gN 33 32 (.mv (.t 1)), gN 34 32 (.mv (.t 5)), gN 35 32 (.sidx (.t 33) (.t 34)), gN 36 32 (.bin .neq (.t 35) (.c (.int .u8 35))), gN 37 32 (.mv (.t 36)), gY 38 37 (.mv (.t 1)), gY 39 37 (.mv (.t 5)), gY 40 37 (.sidx (.t 38) (.t 39)), gY 41 37 (.bin .neq (.t 40) (.c (.int .u8 63))), gN 42 32 (.pick (.t 37) (.t 41) (.c (.bool false))), gN 43 32 (.mv (.t 42)), gY 44 43 (.mv (.t 1)), gY 45 43 (.mv (.t 5)), gY 46 43 (.sidx (.t 44) (.t 45)), gY 47 43 (.call F_impl_isLetter [.t 46]), gY 48 43 (.not (.t 47)), gN 49 32 (.pick (.t 43) (.t 48) (.c (.bool false))), gO 50 (.pick (.t 32) (.c (.bool true)) (.t 49))]
def q192r4 := [gV 21 19, gO 5 (.asg true (.t 21))]
def q192r5 := [gO 20 (.bin .lss (.t 19) (.t 18))]
def q192b0 : CC := .seq (.reg none q192r5 [1, 2, 18, 19, 20]) (.seq (.cnd (.t 20) (.skip) (.exit 0)) (.seq (.blk 1 (.seq (.reg none q192r4 [1, 2, 5, 18, 19]) (.seq (.reg (some (29, [[], [0], [], [0, 1, 2], [0, 1, 2, 3], [], [], [5, 6], [5, 6, 7], [0, 1, 2, 3, 4, 5, 6, 7, 8], [0, 1, 2, 3, 4, 5, 6, 7, 8, 9], [0, 1, 2, 3, 4, 5, 6, 7, 8, 9, 10], [0, 1, 2, 3, 4, 5, 6, 7, 8, 9, 10], [0, 1, 2, 3, 4, 5, 6, 7, 8, 9, 10, 11, 12], [0, 1, 2, 3, 4, 5, 6, 7, 8, 9, 10, 11, 12, 13], [0, 1, 2, 3, 4, 5, 6, 7, 8, 9, 10, 11, 12, 13, 14], [0, 1, 2, 3, 4, 5, 6, 7, 8, 9, 10, 11, 12, 13, 14, 15], [0, 1, 2, 3, 4, 5, 6, 7, 8, 9, 10, 11, 12, 13, 14, 15], [0, 1, 2, 3, 4, 5, 6, 7, 8, 9, 10, 11, 12, 13, 14, 15, 16, 17], [0, 1, 2, 3, 4, 5, 6, 7, 8, 9, 10, 11, 12, 13, 14, 15, 16, 17, 18], [0, 1, 2, 3, 4, 5, 6, 7, 8, 9, 10, 11, 12, 13, 14, 15, 16, 17, 18, 19], [0, 1, 2, 3, 4, 5, 6, 7, 8, 9, 10, 11, 12, 13, 14, 15, 16, 17, 18, 19, 20], [0, 1, 2, 3, 4, 5, 6, 7, 8, 9, 10, 11, 12, 13, 14, 15, 16, 17, 18, 19, 20, 21], [0, 1, 2, 3, 4, 5, 6, 7, 8, 9, 10, 11, 12, 13, 14, 15, 16, 17, 18, 19, 20, 21], [0, 1, 2, 3, 4, 5, 6, 7, 8, 9, 10, 11, 12, 13, 14, 15, 16, 17, 18, 19, 20, 21, 22, 23], [0, 1, 2, 3, 4, 5, 6, 7, 8, 9, 10, 11, 12, 13, 14, 15, 16, 17, 18, 19, 20, 21, 22, 23, 24], [0, 1, 2, 3, 4, 5, 6, 7, 8, 9, 10, 11, 12, 13, 14, 15, 16, 17, 18, 19, 20, 21, 22, 23, 24, 25], [0, 1, 2, 3, 4, 5, 6, 7, 8, 9, 10, 11, 12, 13, 14, 15, 16, 17, 18, 19, 20, 21, 22, 23, 24, 25, 26], [0, 1, 2, 3, 4, 5, 6, 7, 8, 9, 10, 11, 12, 13, 14, 15, 16, 17, 18, 19, 20, 21, 22, 23, 24, 25, 26, 27]])) q192r3 [1, 2, 18, 19, 50]) (.cnd (.t 50) (.seq (.reg none q192r2 [4]) (.ret)) (.skip))))) (.reg none q192r1 [1, 2, 18, 19])))
def q192r6 := [gV 17 1, gO 18 (.slen (.t 17)), gO 19 (.mv (xI 0))]
def q192r7 := [gO 4 (.asg false (.c (.bool false)))]
def q192r8 := [gO 6 (.lda 3 (.t 2)), gO 7 (.call F_impl_IsGrid [.t 6]), gO 8 (.not (.t 7)), gV 9 8, gN 10 9 (.mv (.t 1)), gN 11 9 (.slen (.t 10)), gN 12 9 (.fld (.t 2) 2), gN 13 9 (.ld (.t 12)), gN 14 9 (.slen (.t 13)), gN 15 9 (.bin .neq (.t 11) (.t 14)), gO 16 (.pick (.t 9) (.c (.bool true)) (.t 15))]
def q192r9 := [gO 2 (.box (.t 0)), gO 4 (.asg false (.c (.bool false)))]
def q192 : CC := .seq (.reg none q192r9 [1, 2]) (.seq (.seq (.reg none q192r8 [1, 2, 16]) (.cnd (.t 16) (.seq (.reg none q192r7 [4]) (.ret)) (.skip))) (.seq (.seq (.reg none q192r6 [1, 2, 18, 19]) (.blk 0 (.loop q192b0 [1, 2, 18, 19]))) (.seq (.reg none q192r0 [4]) (.ret))))
abbrev L_impl_IsFill_0 (P : Program) (E : Env) (r : List RV) : Prop := Run P [.tmp 4] (.code q192b0 :: .lp q192b0 [1, 2, 18, 19] :: [.blk 0, .code (.seq (.reg none q192r0 [4]) (.ret))]) E r
theorem k192 : chkF PP Tryz.f192 q192 [.tmp 4] = true := by kernel_rfl
theorem S_impl_IsFill : SOf PP Tryz.f192 52 [.tmp 4] q192 F_impl_IsFill := fun hs hn h => callsOK Tryz.func192 k192 hs hn h

def q195r0 := [gO 3 (.fld (.t 1) 0), gO 4 (.ld (.t 3)), gO 5 (.bin .eql (.t 4) (xI 0)), gV 6 5, gY 7 6 (.fld (.t 1) 1), gY 8 6 (.ld (.t 7)), gY 9 6 (.len (.t 8)), gY 10 6 (.bin .eql (.t 9) (xI 0)), gO 11 (.pick (.t 6) (.t 10) (.c (.bool false))), gO 2 (.asg true (.t 11))]
def q195r1 := [gO 1 (.box (.t 0)), gO 2 (.asg false (.c (.bool false)))]
def q195 : CC := .seq (.reg none q195r1 [1]) (.seq (.reg none q195r0 [2]) (.ret))
theorem k195 : chkF PP Tryz.f195 q195 [.tmp 2] = true := by kernel_rfl
theorem S_spec_l27Zero : SOf PP Tryz.f195 12 [.tmp 2] q195 F_spec_l27Zero := fun hs hn h => callsOK Tryz.func195 k195 hs hn h

def q196r0 := [gO 2 (.asg false (xI 0))]
def q196r1 := [gO 2 (.asg false (xI 1))]
def q196r2 := [gO 2 (.asg false (xI 2))]
def q196r3 := [gO 2 (.asg false (xI 3))]
def q196r4 := [gO 2 (.asg false (xI 4))]
def q196r5 := [gO 2 (.asg false (xI 5))]
def q196r6 := [gO 19 (.lda 3 (.t 1)), gO 20 (.call F_spec_l10Alone [.t 19]), gO 18 (.asg true (.t 20))]
def q196r7 := [gO 16 (.lda 3 (.t 1)), gO 17 (.call F_spec_l10Short [.t 16]), gO 15 (.asg true (.t 17))]
def q196r8 := [gO 12 (.lda 3 (.t 1)), gO 13 (.call F_spec_IsConnected [.t 12]), gO 14 (.not (.t 13)), gO 11 (.asg true (.t 14))]
def q196r9 := [gO 8 (.lda 3 (.t 1)), gO 9 (.call F_spec_IsSymmetric [.t 8]), gO 10 (.not (.t 9)), gO 7 (.asg true (.t 10))]
def q196r10 := [gO 4 (.lda 3 (.t 1)), gO 5 (.call F_spec_IsGrid [.t 4]), gO 6 (.not (.t 5)), gO 3 (.asg true (.t 6))]
def q196r11 := [gO 1 (.box (.t 0)), gO 2 (.asg false (xI 0))]
def q196 : CC := .seq (.reg none q196r11 [1]) (.seq (.blk 0 (.seq (.reg none q196r10 [1, 3]) (.cnd (.t 3) (.seq (.reg none q196r1 [2]) (.ret)) (.seq (.reg none q196r9 [1, 7]) (.cnd (.t 7) (.seq (.reg none q196r2 [2]) (.ret)) (.seq (.reg none q196r8 [1, 11]) (.cnd (.t 11) (.seq (.reg none q196r3 [2]) (.ret)) (.seq (.reg none q196r7 [1, 15]) (.cnd (.t 15) (.seq (.reg none q196r4 [2]) (.ret)) (.seq (.reg none q196r6 [18]) (.cnd (.t 18) (.seq (.reg none q196r5 [2]) (.ret)) (.skip)))))))))))) (.seq (.reg none q196r0 [2]) (.ret)))
theorem k196 : chkF PP Tryz.f196 q196 [.tmp 2] = true := by kernel_rfl
theorem S_spec_FormOf : SOf PP Tryz.f196 21 [.tmp 2] q196 F_spec_FormOf := fun hs hn h => callsOK Tryz.func196 k196 hs hn h

def q197r0 := [gO 2 (.asg false (xI 0))]
def q197r1 := [gO 2 (.asg false (xI 5))]
def q197r2 := [gO 47 (.lda 3 (.t 1)), gO 48 (.fld (.t 1) 2), gO 49 (.ld (.t 48)), gO 50 (.call F_impl_alone [.t 47, .t 49])]
def q197r3 := [gO 46 (.bin .add (.t 34) (xI 1)), gV 34 46]
def q197r4 := [gO 2 (.asg false (xI 5))]
def q197r5 := [gO 39 (.lda 3 (.t 1)), gV 40 6, gO 41 (.call F_impl_UncheckedIn [.t 39, .t 40]), gO 42 (.bin .mul (xI 2) (.t 41)), gO 43 (.fld (.t 7) 3), gO 44 (.ld (.t 43)), gO 45 (.bin .gtr (.t 42) (.t 44))]
def q197r6 := [gV 36 34, gO 37 (.idx 4 (.t 32) (.t 34)), gO 38 (.lda 4 (.t 37)), gO 7 (.alc [.int .i64 0, .bool false, .int .i64 0, .int .i64 0]), gO 6 (.asg true (.t 36)), gS (.sto 4 (.t 7) (.t 38))]
def q197r7 := [gO 35 (.bin .lss (.t 34) (.t 33))]
def q197b0 : CC := .seq (.reg none q197r7 [1, 3, 32, 33, 34, 35]) (.seq (.cnd (.t 35) (.skip) (.exit 3)) (.seq (.blk 4 (.seq (.reg none q197r6 [1, 3, 6, 7, 32, 33, 34]) (.seq (.reg (some (7, [[], [], [0, 1], [0, 1, 2], [], [4], [0, 1, 2, 3, 4, 5]])) q197r5 [1, 3, 32, 33, 34, 45]) (.cnd (.t 45) (.seq (.reg none q197r4 [2]) (.ret)) (.skip))))) (.reg none q197r3 [1, 3, 32, 33, 34])))
def q197r8 := [gV 32 3, gO 33 (.len (.t 32)), gO 34 (.mv (xI 0))]
def q197r9 := [gO 31 (.bin .add (.t 24) (xI 1)), gV 24 31]
def q197r10 := [gO 2 (.asg false (xI 4))]
def q197r11 := [gO 28 (.fld (.t 5) 3), gO 29 (.ld (.t 28)), gO 30 (.bin .lss (.t 29) (xI 3))]
def q197r12 := [gO 26 (.idx 4 (.t 22) (.t 24)), gO 27 (.lda 4 (.t 26)), gO 5 (.alc [.int .i64 0, .bool false, .int .i64 0, .int .i64 0]), gS (.sto 4 (.t 5) (.t 27))]
def q197r13 := [gO 25 (.bin .lss (.t 24) (.t 23))]
def q197b1 : CC := .seq (.reg none q197r13 [1, 3, 22, 23, 24, 25]) (.seq (.cnd (.t 25) (.skip) (.exit 1)) (.seq (.blk 2 (.seq (.reg none q197r12 [1, 3, 5, 22, 23, 24]) (.seq (.reg none q197r11 [1, 3, 22, 23, 24, 30]) (.cnd (.t 30) (.seq (.reg none q197r10 [2]) (.ret)) (.skip))))) (.reg none q197r9 [1, 3, 22, 23, 24])))
def q197r14 := [gV 22 3, gO 23 (.len (.t 22)), gO 24 (.mv (xI 0))]
def q197r15 := [gO 20 (.lda 3 (.t 1)), gO 21 (.call F_impl_SlotsOf [.t 20]), gO 3 (.asg true (.t 21))]
def q197r16 := [gO 2 (.asg false (xI 1))]
def q197r17 := [gO 2 (.asg false (xI 2))]
def q197r18 := [gO 2 (.asg false (xI 3))]
def q197r19 := [gO 17 (.lda 3 (.t 1)), gO 18 (.call F_impl_IsConnected [.t 17]), gO 19 (.not (.t 18)), gO 16 (.asg true (.t 19))]
def q197r20 := [gO 13 (.lda 3 (.t 1)), gO 14 (.call F_impl_IsSymmetric [.t 13]), gO 15 (.not (.t 14)), gO 12 (.asg true (.t 15))]
def q197r21 := [gO 9 (.lda 3 (.t 1)), gO 10 (.call F_impl_IsGrid [.t 9]), gO 11 (.not (.t 10)), gO 8 (.asg true (.t 11))]
def q197r22 := [gO 1 (.box (.t 0)), gO 2 (.asg false (xI 0))]
def q197 : CC := .seq (.reg none q197r22 [1]) (.seq (.blk 0 (.seq (.reg none q197r21 [1, 8]) (.cnd (.t 8) (.seq (.reg none q197r16 [2]) (.ret)) (.seq (.reg none q197r20 [1, 12]) (.cnd (.t 12) (.seq (.reg none q197r17 [2]) (.ret)) (.seq (.reg none q197r19 [1, 16]) (.cnd (.t 16) (.seq (.reg none q197r18 [2]) (.ret)) (.skip)))))))) (.seq (.reg none q197r15 [1, 3]) (.seq (.seq (.reg none q197r14 [1, 3, 22, 23, 24]) (.blk 1 (.loop q197b1 [1, 3, 22, 23, 24]))) (.seq (.seq (.reg none q197r8 [1, 3, 32, 33, 34]) (.blk 3 (.loop q197b0 [1, 3, 32, 33, 34]))) (.seq (.seq (.reg none q197r2 [50]) (.cnd (.t 50) (.seq (.reg none q197r1 [2]) (.ret)) (.skip))) (.seq (.reg none q197r0 [2]) (.ret)))))))
abbrev L_impl_FormOf_0 (P : Program) (E : Env) (r : List RV) : Prop := Run P [.tmp 2] (.code q197b0 :: .lp q197b0 [1, 3, 32, 33, 34] :: [.blk 3, .code (.seq (.seq (.reg none q197r2 [50]) (.cnd (.t 50) (.seq (.reg none q197r1 [2]) (.ret)) (.skip))) (.seq (.reg none q197r0 [2]) (.ret)))]) E r
abbrev L_impl_FormOf_1 (P : Program) (E : Env) (r : List RV) : Prop := Run P [.tmp 2] (.code q197b1 :: .lp q197b1 [1, 3, 22, 23, 24] :: [.blk 1, .code (.seq (.seq (.reg none q197r8 [1, 3, 32, 33, 34]) (.blk 3 (.loop q197b0 [1, 3, 32, 33, 34]))) (.seq (.seq (.reg none q197r2 [50]) (.cnd (.t 50) (.seq (.reg none q197r1 [2]) (.ret)) (.skip))) (.seq (.reg none q197r0 [2]) (.ret))))]) E r
theorem k197 : chkF PP Tryz.f197 q197 [.tmp 2] = true := by kernel_rfl
theorem S_impl_FormOf : SOf PP Tryz.f197 51 [.tmp 2] q197 F_impl_FormOf := fun hs hn h => callsOK Tryz.func197 k197 hs hn h

def q198r0 := [gV 50 3, gO 2 (.asg true (.t 50))]
def q198r1 := [gO 49 (.bin .add (.t 14) (xI 1)), gV 14 49]
def q198r2 := [gV 42 3, gV 43 4, gV 44 5, gV 45 7, gO 46 (.bld [.int .i64 0, .bool false, .int .i64 0, .int .i64 0] [(0, 1, .t 43), (1, 1, .c (.bool true)), (2, 1, .t 44), (3, 1, .t 45)]), gO 47 (.bsl 4 [.t 46]), gO 48 (.app T_impl_Slot 4 32 (.t 42) (.t 47)), gO 3 (.asg true (.t 48))]
def q198r3 := [gV 40 7, gO 41 (.bin .geq (.t 40) (xI 2))]
def q198r4 := [gV 33 3, gV 34 4, gV 35 5, gV 36 6, gO 37 (.bld [.int .i64 0, .bool false, .int .i64 0, .int .i64 0] [(0, 1, .t 34), (1, 1, .c (.bool false)), (2, 1, .t 35), (3, 1, .t 36)]), gO 38 (.bsl 4 [.t 37]), gO 39 (.app T_impl_Slot 4 32 (.t 33) (.t 38)), gO 3 (.asg true (.t 39))]
def q198r5 := [gV 31 6, gO 32 (.bin .geq (.t 31) (xI 2))]
def q198r6 := [gV 29 4, gO 30 (.bin .add (.t 29) (xI 1)), gO 4 (.asg true (.t 30))]
def q198r7 := [gV 23 6, gO 24 (.bin .geq (.t 23) (xI 2)), gV 25 24, gN 26 25 (.mv (.t 7)), gN 27 25 (.bin .geq (.t 26) (xI 2)), gO 28 (.pick (.t 25) (.c (.bool true)) (.t 27))]
def q198r8 := [gO 17 (.lda 3 (.t 1)), gV 18 5, gO 19 (.call F_impl_run [.t 17, .t 18, .c (.bool false)]), gO 20 (.lda 3 (.t 1)), gV 21 5, gO 22 (.call F_impl_run [.t 20, .t 21, .c (.bool true)]), gV 6 19, gV 7 22]
def q198r9 := [gV 16 14, gO 5 (.asg true (.t 16))]
def q198r10 := [gO 15 (.bin .lss (.t 14) (.t 13))]
def q198b0 : CC := .seq (.reg none q198r10 [1, 3, 4, 13, 14, 15]) (.seq (.cnd (.t 15) (.skip) (.exit 0)) (.seq (.blk 1 (.seq (.reg none q198r9 [1, 3, 4, 5, 13, 14]) (.seq (.reg (some (8, [[], [], [0, 1], [], [], [0, 1, 2, 3, 4], [0, 1, 2, 3, 4, 5], [0, 1, 2, 3, 4, 5, 6]])) q198r8 [1, 3, 4, 5, 6, 7, 13, 14]) (.seq (.seq (.reg none q198r7 [1, 3, 4, 5, 6, 7, 13, 14, 28]) (.cnd (.t 28) (.reg none q198r6 [1, 3, 4, 5, 6, 7, 13, 14]) (.skip))) (.seq (.seq (.reg none q198r5 [1, 3, 4, 5, 6, 7, 13, 14, 32]) (.cnd (.t 32) (.reg none q198r4 [1, 3, 4, 5, 7, 13, 14]) (.skip))) (.seq (.reg none q198r3 [1, 3, 4, 5, 7, 13, 14, 41]) (.cnd (.t 41) (.reg none q198r2 [1, 3, 4, 13, 14]) (.skip)))))))) (.reg none q198r1 [1, 3, 4, 13, 14])))
def q198r11 := [gO 11 (.fld (.t 1) 2), gO 12 (.ld (.t 11)), gO 13 (.slen (.t 12)), gO 14 (.mv (xI 0))]
def q198r12 := [gO 4 (.asg false (xI 0))]
def q198r13 := [gO 3 (.nilo T_impl_Slot 4 32)]
def q198r14 := [gO 2 (.nilo T_impl_Slot 4 32)]
def q198r15 := [gO 8 (.lda 3 (.t 1)), gO 9 (.call F_impl_IsGrid [.t 8]), gO 10 (.not (.t 9))]
def q198r16 := [gO 1 (.box (.t 0)), gO 2 (.nilo T_impl_Slot 4 32)]
def q198 : CC := .seq (.reg none q198r16 [1]) (.seq (.seq (.reg none q198r15 [1, 10]) (.cnd (.t 10) (.seq (.reg none q198r14 [2]) (.ret)) (.skip))) (.seq (.reg none q198r13 [1, 3]) (.seq (.reg none q198r12 [1, 3, 4]) (.seq (.seq (.reg none q198r11 [1, 3, 4, 13, 14]) (.blk 0 (.loop q198b0 [1, 3, 4, 13, 14]))) (.seq (.reg none q198r0 [2]) (.ret))))))
abbrev L_impl_SlotsOf_0 (P : Program) (E : Env) (r : List RV) : Prop := Run P [.tmp 2] (.code q198b0 :: .lp q198b0 [1, 3, 4, 13, 14] :: [.blk 0, .code (.seq (.reg none q198r0 [2]) (.ret))]) E r
theorem k198 : chkF PP Tryz.f198 q198 [.tmp 2] = true := by kernel_rfl
theorem S_impl_SlotsOf : SOf PP Tryz.f198 51 [.tmp 2] q198 F_impl_SlotsOf := fun hs hn h => callsOK Tryz.func198 k198 hs hn h

def q199r0 := [gV 5 0, gV 6 1, gO 7 (.call F_slices_IndexFunc_impl_Clue [.t 5, .t 6]), gO 8 (.bin .geq (.t 7) (xI 0)), gO 4 (.asg true (.t 8))]
def q199r1 := [gO 4 (.asg false (.c (.bool false)))]
def q199 : CC := .seq (.reg none q199r1 [0, 1]) (.seq (.reg none q199r0 [4]) (.ret))
theorem k199 : chkF PP Tryz.f199 q199 [.tmp 4] = true := by kernel_rfl
theorem S_slices_ContainsFunc_impl_Clue : SOf PP Tryz.f199 9 [.tmp 4] q199 F_slices_ContainsFunc_impl_Clue := fun hs hn h => callsOK Tryz.func199 k199 hs hn h

def q200r0 := [gO 3 (.lda 2 (.t 1)), gO 4 (.call F_impl_IsClue [.t 3]), gO 5 (.not (.t 4)), gV 6 5, gY 7 6 (.lda 2 (.t 1)), gY 8 6 (.bld [.int .i64 0, .sl 4 []] []), gY 9 6 (.call F_impl_sameClue [.t 7, .t 8]), gY 10 6 (.not (.t 9)), gO 11 (.pick (.t 6) (.t 10) (.c (.bool false))), gO 2 (.asg true (.t 11))]
def q200r1 := [gO 1 (.box (.t 0)), gO 2 (.asg false (.c (.bool false)))]
def q200 : CC := .seq (.reg none q200r1 [1]) (.seq (.reg none q200r0 [2]) (.ret))
theorem k200 : chkF PP Tryz.f200 q200 [.tmp 2] = true := by kernel_rfl
theorem S_impl_IsDraft_1 : SOf PP Tryz.f200 12 [.tmp 2] q200 F_impl_IsDraft_1 := fun hs hn h => callsOK Tryz.func200 k200 hs hn h

def q201r0 := [gO 5 (.fld (.t 2) 0), gO 6 (.ld (.t 5)), gO 7 (.fld (.t 3) 0), gO 8 (.ld (.t 7)), gO 9 (.bin .eql (.t 6) (.t 8)), gV 10 9, gY 11 10 (.fld (.t 2) 1), gY 12 10 (.ld (.t 11)), gY 13 10 (.fld (.t 3) 1), gY 14 10 (.ld (.t 13)), gY 15 10 (.call F_slices_Equal_impl_Step [.t 12, .t 14]), gO 16 (.pick (.t 10) (.t 15) (.c (.bool false))), gO 4 (.asg true (.t 16))]
def q201r1 := [gO 2 (.box (.t 0)), gO 3 (.box (.t 1)), gO 4 (.asg false (.c (.bool false)))]
def q201 : CC := .seq (.reg none q201r1 [2, 3]) (.seq (.reg none q201r0 [4]) (.ret))
theorem k201 : chkF PP Tryz.f201 q201 [.tmp 4] = true := by kernel_rfl
theorem S_impl_sameClue : SOf PP Tryz.f201 17 [.tmp 4] q201 F_impl_sameClue := fun hs hn h => callsOK Tryz.func201 k201 hs hn h

def q207r0 := [gO 3 (.fld (.t 1) 0), gO 4 (.lda 3 (.t 3)), gO 5 (.fld (.t 1) 3), gO 6 (.ld (.t 5)), gO 7 (.call F_spec_l21Clues [.t 6]), gO 8 (.bslo T_int 1 8 []), gO 9 (.fld (.t 1) 4), gO 10 (.ld (.t 9)), gO 11 (.app T_int 1 8 (.t 8) (.t 10)), gO 12 (.fld (.t 1) 5), gO 13 (.ld (.t 12)), gO 14 (.bld [.int .i64 0, .int .i64 0, .str [], .sl 2 [], .sl 1 [], .int .i64 0] [(0, 3, .t 4), (3, 1, .t 7), (4, 1, .t 11), (5, 1, .t 13)]), gS (.sto 6 (.t 2) (.t 14))]
def q207r1 := [gO 1 (.box (.t 0)), gO 2 (.alc [.int .i64 0, .int .i64 0, .str [], .sl 2 [], .sl 1 [], .int .i64 0])]
def q207 : CC := .seq (.reg none q207r1 [1, 2]) (.seq (.any [[], [0], [], [2], [2, 3], [], [], [6], [2, 3, 4, 5, 6, 7], [], [9], [0, 1, 2, 3, 4, 5, 6, 7, 8, 9, 10], [0, 1, 2, 3, 4, 5, 6, 7, 8, 9, 10, 11]] q207r0 [2]) (.ret))
theorem k207 : chkF PP Tryz.f207 q207 [.cella 2] = true := by kernel_rfl
theorem S_spec_l21Copy : SOf PP Tryz.f207 15 [.cella 2] q207 F_spec_l21Copy := fun hs hn h => callsOK Tryz.func207 k207 hs hn h

def q210r0 := [gO 3 (.fld (.t 1) 0), gO 4 (.lda 3 (.t 3)), gO 5 (.fld (.t 1) 3), gO 6 (.ld (.t 5)), gO 7 (.call F_impl_copyClues [.t 6]), gO 8 (.fld (.t 1) 4), gO 9 (.ld (.t 8)), gO 10 (.call F_slices_Clone_int [.t 9]), gO 11 (.fld (.t 1) 5), gO 12 (.ld (.t 11)), gO 13 (.bld [.int .i64 0, .int .i64 0, .str [], .sl 2 [], .sl 1 [], .int .i64 0] [(0, 3, .t 4), (3, 1, .t 7), (4, 1, .t 10), (5, 1, .t 12)]), gS (.sto 6 (.t 2) (.t 13))]
def q210r1 := [gO 1 (.box (.t 0)), gO 2 (.alc [.int .i64 0, .int .i64 0, .str [], .sl 2 [], .sl 1 [], .int .i64 0])]
def q210 : CC := .seq (.reg none q210r1 (nL [1, 2])) (.seq (.mix [0, 1, 2, 3, 5, 6, 8, 9] [[], [0], [], [2], [2, 3], [], [5], [2, 3, 4, 5, 6], [], [8], [0, 1, 2, 3, 4, 5, 6, 7, 8, 9], [0, 1, 2, 3, 4, 5, 6, 7, 8, 9, 10]] q210r0 (nL [2])) (.ret))
theorem k210 : chkF PP Tryz.f210 q210 [.cella 2] = true := by kernel_rfl
theorem SQ_impl_copyPuzzle : SQOf PP Tryz.f210 14 [.cella 2] q210 F_impl_copyPuzzle := fun ni no hs hn hni hno h => callsH_of_run ni no Tryz.func210 k210 hs hn hni hno (fun u => h u _ (fun _ h => h))

def q222r0 := [gO 5 (.bslo T_impl_Step 4 40 []), gV 6 0, gO 7 (.app T_impl_Step 4 40 (.t 5) (.t 6)), gO 2 (.asg true (.t 7))]
def q222r1 := [gO 2 (.nilo T_impl_Step 4 40)]
def q222r2 := [gV 3 0, gO 4 (.isn false (.t 3))]
def q222r3 := [gO 2 (.nilo T_impl_Step 4 40)]
def q222 : CC := .seq (.reg none q222r3 [0]) (.seq (.seq (.reg none q222r2 [0, 4]) (.cnd (.t 4) (.seq (.reg none q222r1 [2]) (.ret)) (.skip))) (.seq (.reg none q222r0 [2]) (.ret)))
theorem k222 : chkF PP Tryz.f222 q222 [.tmp 2] = true := by kernel_rfl
theorem S_slices_Clone_impl_Step : SOf PP Tryz.f222 8 [.tmp 2] q222 F_slices_Clone_impl_Step := fun hs hn h => callsOK Tryz.func222 k222 hs hn h

def q225r0 := [gV 20 3, gO 2 (.asg true (.t 20))]
def q225r1 := [gV 10 4, gO 11 (.bin .add (.t 10) (xI 1)), gO 4 (.asg true (.t 11))]
def q225r2 := [gV 12 3, gV 13 0, gV 14 4, gO 15 (.idx 2 (.t 13) (.t 14)), gO 16 (.lda 2 (.t 15)), gO 17 (.call F_spec_l18Copy [.t 16]), gO 18 (.bsl 2 [.t 17]), gO 19 (.app T_impl_Clue 2 32 (.t 12) (.t 18)), gO 3 (.asg true (.t 19))]
def q225r3 := [gV 6 4, gV 7 0, gO 8 (.len (.t 7)), gO 9 (.bin .lss (.t 6) (.t 8))]
def q225b0 : CC := .seq (.seq (.reg none q225r3 [0, 3, 4, 9]) (.cnd (.t 9) (.skip) (.exit 0))) (.seq (.blk 1 (.reg none q225r2 [0, 3, 4])) (.reg none q225r1 [0, 3, 4]))
def q225r4 := [gO 4 (.asg false (xI 0))]
def q225r5 := [gO 5 (.bslo T_impl_Clue 2 32 []), gO 3 (.asg true (.t 5))]
def q225r6 := [gO 2 (.nilo T_impl_Clue 2 32)]
def q225 : CC := .seq (.reg none q225r6 [0]) (.seq (.reg none q225r5 [0, 3]) (.seq (.seq (.reg none q225r4 [0, 3, 4]) (.blk 0 (.loop q225b0 [0, 3, 4]))) (.seq (.reg none q225r0 [2]) (.ret))))
abbrev L_spec_l21Clues_0 (P : Program) (E : Env) (r : List RV) : Prop := Run P [.tmp 2] (.code q225b0 :: .lp q225b0 [0, 3, 4] :: [.blk 0, .code (.seq (.reg none q225r0 [2]) (.ret))]) E r
theorem k225 : chkF PP Tryz.f225 q225 [.tmp 2] = true := by kernel_rfl
theorem S_spec_l21Clues : SOf PP Tryz.f225 21 [.tmp 2] q225 F_spec_l21Clues := fun hs hn h => callsOK Tryz.func225 k225 hs hn h

def q231r0 := [gV 18 3, gO 2 (.asg true (.t 18))]
def q231r1 := [gO 17 (.bin .add (.t 8) (xI 1)), gV 8 17]
def q231r2 := [gV 12 3, gO 13 (.lda 2 (.t 5)), gO 14 (.call F_impl_copyClue [.t 13]), gO 15 (.bsl 2 [.t 14]), gO 16 (.app T_impl_Clue 2 32 (.t 12) (.t 15)), gO 3 (.asg true (.t 16))]
def q231r3 := [gO 10 (.idx 2 (.t 6) (.t 8)), gO 11 (.lda 2 (.t 10)), gO 5 (.alc [.int .i64 0, .sl 4 []]), gS (.sto 2 (.t 5) (.t 11))]
def q231r4 := [gO 9 (.bin .lss (.t 8) (.t 7))]
def q231b0 : CC := .seq (.reg none q231r4 (nL [0, 3, 6, 7, 8, 9])) (.seq (.cnd (.t 9) (.skip) (.exit 0)) (.seq (.blk 1 (.seq (.reg none q231r3 (nL [0, 3, 5, 6, 7, 8])) (.reg none q231r2 (nL [0, 3, 6, 7, 8])))) (.reg none q231r1 (nL [0, 3, 6, 7, 8]))))
def q231r5 := [gV 6 0, gO 7 (.len (.t 6)), gO 8 (.mv (xI 0))]
def q231r6 := [gO 3 (.nilo T_impl_Clue 2 32)]
def q231r7 := [gO 2 (.nilo T_impl_Clue 2 32)]
def q231 : CC := .seq (.reg none q231r7 (nL [0])) (.seq (.reg none q231r6 (nL [0, 3])) (.seq (.seq (.reg none q231r5 (nL [0, 3, 6, 7, 8])) (.blk 0 (.loop q231b0 (nL [0, 3, 6, 7, 8])))) (.seq (.reg none q231r0 (nL [2])) (.ret))))
abbrev L_impl_copyClues_0 (P : Program) (Q : Env → Prop) (E : Env) : Prop := RunQ P Q (.code q231b0 :: .lp q231b0 (nL [0, 3, 6, 7, 8]) :: [.blk 0, .code (.seq (.reg none q231r0 (nL [2])) (.ret))]) E
theorem k231 : chkF PP Tryz.f231 q231 [.tmp 2] = true := by kernel_rfl
theorem SQ_impl_copyClues : SQOf PP Tryz.f231 19 [.tmp 2] q231 F_impl_copyClues := fun ni no hs hn hni hno h => callsH_of_run ni no Tryz.func231 k231 hs hn hni hno (fun u => h u _ (fun _ h => h))

def q246r0 := [gO 4 (.asg false (.c (.bool true)))]
def q246r1 := [gO 4 (.asg false (.c (.bool false)))]
def q246r2 := [gO 23 (.fld (.t 2) 5), gO 24 (.ld (.t 23)), gO 25 (.fld (.t 3) 5), gO 26 (.ld (.t 25)), gO 27 (.bin .neq (.t 24) (.t 26))]
def q246r3 := [gO 4 (.asg false (.c (.bool false)))]
def q246r4 := [gO 17 (.fld (.t 2) 4), gO 18 (.ld (.t 17)), gO 19 (.fld (.t 3) 4), gO 20 (.ld (.t 19)), gO 21 (.call F_laws_eqIntS [.t 18, .t 20]), gO 22 (.not (.t 21))]
def q246r5 := [gO 4 (.asg false (.c (.bool false)))]
def q246r6 := [gO 11 (.fld (.t 2) 3), gO 12 (.ld (.t 11)), gO 13 (.fld (.t 3) 3), gO 14 (.ld (.t 13)), gO 15 (.call F_laws_eqClueS [.t 12, .t 14]), gO 16 (.not (.t 15))]
def q246r7 := [gO 4 (.asg false (.c (.bool false)))]
def q246r8 := [gO 5 (.fld (.t 2) 0), gO 6 (.lda 3 (.t 5)), gO 7 (.fld (.t 3) 0), gO 8 (.lda 3 (.t 7)), gO 9 (.call F_laws_eqGrid [.t 6, .t 8]), gO 10 (.not (.t 9))]
def q246r9 := [gO 2 (.box (.t 0)), gO 3 (.box (.t 1)), gO 4 (.asg false (.c (.bool false)))]
def q246 : CC := .seq (.reg none q246r9 [2, 3]) (.seq (.seq (.reg none q246r8 [2, 3, 10]) (.cnd (.t 10) (.seq (.reg none q246r7 [4]) (.ret)) (.skip))) (.seq (.seq (.reg none q246r6 [2, 3, 16]) (.cnd (.t 16) (.seq (.reg none q246r5 [4]) (.ret)) (.skip))) (.seq (.seq (.reg none q246r4 [2, 3, 22]) (.cnd (.t 22) (.seq (.reg none q246r3 [4]) (.ret)) (.skip))) (.seq (.seq (.reg none q246r2 [27]) (.cnd (.t 27) (.seq (.reg none q246r1 [4]) (.ret)) (.skip))) (.seq (.reg none q246r0 [4]) (.ret))))))
theorem k246 : chkF PP Tryz.f246 q246 [.tmp 4] = true := by kernel_rfl
theorem S_laws_eqPuzzle : SOf PP Tryz.f246 28 [.tmp 4] q246 F_laws_eqPuzzle := fun hs hn h => callsOK Tryz.func246 k246 hs hn h

def q247r0 := [gV 23 1, gO 4 (.asg true (.t 23))]
def q247r1 := [gO 4 (.asg false (.c (.int .i64 (-1))))]
def q247r2 := [gV 21 1, gO 22 (.bin .lss (.t 21) (xI 0))]
def q247r3 := [gO 17 (.fld (.t 2) 4), gO 18 (.ld (.t 17)), gV 19 1, gO 20 (.call F_laws_szIntS [.t 18, .t 19]), gO 1 (.asg true (.t 20))]
def q247r4 := [gO 4 (.asg false (.c (.int .i64 (-1))))]
def q247r5 := [gV 15 1, gO 16 (.bin .lss (.t 15) (xI 0))]
def q247r6 := [gO 11 (.fld (.t 2) 3), gO 12 (.ld (.t 11)), gV 13 1, gO 14 (.call F_laws_szClueS [.t 12, .t 13]), gO 1 (.asg true (.t 14))]
def q247r7 := [gO 4 (.asg false (.c (.int .i64 (-1))))]
def q247r8 := [gV 9 1, gO 10 (.bin .lss (.t 9) (xI 0))]
def q247r9 := [gO 5 (.fld (.t 2) 0), gO 6 (.lda 3 (.t 5)), gV 7 1, gO 8 (.call F_laws_szGrid [.t 6, .t 7]), gO 1 (.asg true (.t 8))]
def q247r10 := [gO 2 (.box (.t 0)), gO 4 (.asg false (xI 0))]
def q247 : CC := .seq (.reg none q247r10 [1, 2]) (.seq (.reg none q247r9 [1, 2]) (.seq (.seq (.reg none q247r8 [1, 2, 10]) (.cnd (.t 10) (.seq (.reg none q247r7 [4]) (.ret)) (.skip))) (.seq (.reg none q247r6 [1, 2]) (.seq (.seq (.reg none q247r5 [1, 2, 16]) (.cnd (.t 16) (.seq (.reg none q247r4 [4]) (.ret)) (.skip))) (.seq (.reg none q247r3 [1]) (.seq (.seq (.reg none q247r2 [1, 22]) (.cnd (.t 22) (.seq (.reg none q247r1 [4]) (.ret)) (.skip))) (.seq (.reg none q247r0 [4]) (.ret))))))))
theorem k247 : chkF PP Tryz.f247 q247 [.tmp 4] = true := by kernel_rfl
theorem S_laws_szPuzzle : SOf PP Tryz.f247 24 [.tmp 4] q247 F_laws_szPuzzle := fun hs hn h => callsOK Tryz.func247 k247 hs hn h

def q248r0 := [gV 19 0, gO 20 (.len (.t 19)), gO 21 (.call F_spec_l1In [.t 20, .c (.int .i64 1), .c (.int .i64 9)]), gO 2 (.asg true (.t 21))]
def q248r1 := [gV 13 3, gO 14 (.bin .add (.t 13) (xI 1)), gO 3 (.asg true (.t 14))]
def q248r2 := [gO 2 (.asg false (.c (.bool false)))]
def q248r3 := [gV 15 0, gV 16 3, gO 17 (.call F_spec_l15Ok [.t 15, .t 16]), gO 18 (.not (.t 17))]
def q248r4 := [gV 4 3, gV 5 0, gO 6 (.len (.t 5)), gO 7 (.bin .lss (.t 4) (.t 6)), gV 8 7, gY 9 8 (.mv (.t 0)), gY 10 8 (.len (.t 9)), gY 11 8 (.bin .leq (.t 10) (xI 9)), gO 12 (.pick (.t 8) (.t 11) (.c (.bool false)))]
def q248b0 : CC := .seq (.seq (.reg none q248r4 [0, 3, 12]) (.cnd (.t 12) (.skip) (.exit 0))) (.seq (.blk 1 (.seq (.reg none q248r3 [0, 3, 18]) (.cnd (.t 18) (.seq (.reg none q248r2 [2]) (.ret)) (.skip)))) (.reg none q248r1 [0, 3]))
def q248r5 := [gO 3 (.asg false (xI 0))]
def q248r6 := [gO 2 (.asg false (.c (.bool false)))]
def q248 : CC := .seq (.reg none q248r6 [0]) (.seq (.seq (.reg none q248r5 [0, 3]) (.blk 0 (.loop q248b0 [0, 3]))) (.seq (.reg none q248r0 [2]) (.ret)))
abbrev L_spec_IsPlay_0 (P : Program) (E : Env) (r : List RV) : Prop := Run P [.tmp 2] (.code q248b0 :: .lp q248b0 [0, 3] :: [.blk 0, .code (.seq (.reg none q248r0 [2]) (.ret))]) E r
theorem k248 : chkF PP Tryz.f248 q248 [.tmp 2] = true := by kernel_rfl
theorem S_spec_IsPlay : SOf PP Tryz.f248 22 [.tmp 2] q248 F_spec_IsPlay := fun hs hn h => callsOK Tryz.func248 k248 hs hn h

def q249r0 := [gO 19 (.lda 6 (.t 3)), gS (.sto 6 (.t 2) (.t 19))]
def q249r1 := [gO 16 (.fld (.t 1) 5), gO 17 (.ld (.t 16)), gO 18 (.fld (.t 3) 5), gS (.sto 1 (.t 18) (.t 17))]
def q249r2 := [gO 12 (.fld (.t 1) 4), gO 13 (.ld (.t 12)), gO 14 (.call F_laws_toIntS [.t 13]), gO 15 (.fld (.t 3) 4), gS (.sto 1 (.t 15) (.t 14))]
def q249r3 := [gO 8 (.fld (.t 1) 3), gO 9 (.ld (.t 8)), gO 10 (.call F_laws_toClueS [.t 9]), gO 11 (.fld (.t 3) 3), gS (.sto 1 (.t 11) (.t 10))]
def q249r4 := [gO 4 (.fld (.t 1) 0), gO 5 (.lda 3 (.t 4)), gO 6 (.call F_laws_toGrid [.t 5]), gO 7 (.fld (.t 3) 0), gS (.sto 3 (.t 7) (.t 6))]
def q249r5 := [gO 3 (.alc [.int .i64 0, .int .i64 0, .str [], .sl 2 [], .sl 1 [], .int .i64 0])]
def q249r6 := [gO 1 (.box (.t 0)), gO 2 (.alc [.int .i64 0, .int .i64 0, .str [], .sl 2 [], .sl 1 [], .int .i64 0])]
def q249 : CC := .seq (.reg none q249r6 (nL [1, 2])) (.seq (.reg none q249r5 (nL [1, 2, 3])) (.seq (.reg none q249r4 (nL [1, 2, 3])) (.seq (.reg none q249r3 (nL [1, 2, 3])) (.seq (.reg none q249r2 (nL [1, 2, 3])) (.seq (.reg none q249r1 (nL [2, 3])) (.seq (.reg none q249r0 (nL [2])) (.ret)))))))
theorem k249 : chkF PP Tryz.f249 q249 [.cella 2] = true := by kernel_rfl
theorem SQ_laws_toPuzzle : SQOf PP Tryz.f249 20 [.cella 2] q249 F_laws_toPuzzle := fun ni no hs hn hni hno h => callsH_of_run ni no Tryz.func249 k249 hs hn hni hno (fun u => h u _ (fun _ h => h))

def q250r0 := [gO 2 (.asg false (.c (.bool true)))]
def q250r1 := [gO 82 (.bin .add (.t 11) (xI 1)), gV 11 82]
def q250r2 := [gO 2 (.asg false (.c (.bool false)))]
def q250r3 := [gO 61 (.fld (.t 4) 0), gO 62 (.ld (.t 61)), gO 63 (.call F_impl_isPair [.t 62]), gV 64 63, gY 65 64 (.fld (.t 4) 3), gY 66 64 (.ld (.t 65)), gY 67 64 (.mv (.t 3)), gY 68 64 (.call F_impl_at [.t 66, .t 67]), gY 69 64 (.not (.t 68)), gO 70 (.pick (.t 64) (.t 69) (.c (.bool false))), gV 71 70, gN 72 71 (.fld (.t 4) 0), gN 73 71 (.ld (.t 72)), gN 74 71 (.call F_impl_isPair [.t 73]), gN 75 71 (.not (.t 74)), gN 76 71 (.mv (.t 75)), gY 77 76 (.fld (.t 4) 3), gY 78 76 (.ld (.t 77)), gY 79 76 (.bin .neq (.t 78) (xI 0)), gN 80 71 (.pick (.t 76) (.t 79) (.c (.bool false))), gO 81 (.pick (.t 71) (.c (.bool true)) (.t 80))]
def q250r4 := [gO 2 (.asg false (.c (.bool false)))]
def q250r5 := [gO 37 (.fld (.t 4) 1), gO 38 (.ld (.t 37)), gO 39 (.bin .neq (.t 38) (.c (.str []))), gV 40 39, gN 41 40 (.fld (.t 4) 2), gN 42 40 (.ld (.t 41)), gN 43 40 (.mv (.t 3)), gN 44 40 (.call F_impl_at [.t 42, .t 43]), gN 45 40 (.not (.t 44)), gO 46 (.pick (.t 40) (.c (.bool true)) (.t 45)), gV 47 46, gN 48 47 (.fld (.t 4) 0), gN 49 47 (.ld (.t 48)), gN 50 47 (.call F_impl_needsWord [.t 49]), gN 51 47 (.mv (.t 50)), gY 52 51 (.mv (.t 0)), gY 53 51 (.fld (.t 4) 2), gY 54 51 (.ld (.t 53)), gY 55 51 (.idx 4 (.t 52) (.t 54)), gY 56 51 (.fld (.t 55) 0), gY 57 51 (.ld (.t 56)), gY 58 51 (.bin .neq (.t 57) (xI 1)), gN 59 47 (.pick (.t 51) (.t 58) (.c (.bool false))), gO 60 (.pick (.t 47) (.c (.bool true)) (.t 59))]
def q250r6 := [gO 2 (.asg false (.c (.bool false)))]
def q250r7 := [gO 23 (.fld (.t 4) 1), gO 24 (.ld (.t 23)), gO 25 (.call F_impl_IsWord [.t 24]), gO 26 (.not (.t 25)), gV 27 26, gN 28 27 (.fld (.t 4) 2), gN 29 27 (.ld (.t 28)), gN 30 27 (.bin .neq (.t 29) (xI 0)), gO 31 (.pick (.t 27) (.c (.bool true)) (.t 30)), gV 32 31, gN 33 32 (.fld (.t 4) 3), gN 34 32 (.ld (.t 33)), gN 35 32 (.bin .neq (.t 34) (xI 0)), gO 36 (.pick (.t 32) (.c (.bool true)) (.t 35))]
def q250r8 := [gO 20 (.fld (.t 4) 0), gO 21 (.ld (.t 20)), gO 22 (.bin .eql (.t 21) (xI 1))]
def q250r9 := [gO 2 (.asg false (.c (.bool false)))]
def q250r10 := [gO 16 (.fld (.t 4) 0), gO 17 (.ld (.t 16)), gO 18 (.call F_impl_InRange [.t 17, .c (.int .i64 1), .c (.int .i64 9)]), gO 19 (.not (.t 18))]
def q250r11 := [gV 13 11, gO 14 (.idx 4 (.t 9) (.t 11)), gO 15 (.lda 4 (.t 14)), gO 4 (.alc [.int .i64 0, .str [], .int .i64 0, .int .i64 0]), gO 3 (.asg true (.t 13)), gS (.sto 4 (.t 4) (.t 15))]
def q250r12 := [gO 12 (.bin .lss (.t 11) (.t 10))]
def q250b0 : CC := .seq (.reg none q250r12 [0, 9, 10, 11, 12]) (.seq (.cnd (.t 12) (.skip) (.exit 0)) (.seq (.blk 1 (.seq (.reg none q250r11 [0, 3, 4, 9, 10, 11]) (.seq (.seq (.reg none q250r10 [0, 3, 4, 9, 10, 11, 19]) (.cnd (.t 19) (.seq (.reg none q250r9 [2]) (.ret)) (.skip))) (.seq (.seq (.reg none q250r8 [0, 3, 4, 9, 10, 11, 22]) (.cnd (.t 22) (.seq (.seq (.reg none q250r7 [0, 9, 10, 11, 36]) (.cnd (.t 36) (.seq (.reg none q250r6 [2]) (.ret)) (.skip))) (.exit 1)) (.skip))) (.seq (.seq (.reg none q250r5 [0, 3, 4, 9, 10, 11, 60]) (.cnd (.t 60) (.seq (.reg none q250r4 [2]) (.ret)) (.skip))) (.seq (.reg none q250r3 [0, 9, 10, 11, 81]) (.cnd (.t 81) (.seq (.reg none q250r2 [2]) (.ret)) (.skip)))))))) (.reg none q250r1 [0, 9, 10, 11])))
def q250r13 := [gV 9 0, gO 10 (.len (.t 9)), gO 11 (.mv (xI 0))]
def q250r14 := [gO 2 (.asg false (.c (.bool false)))]
def q250r15 := [gV 5 0, gO 6 (.len (.t 5)), gO 7 (.call F_impl_InRange [.t 6, .c (.int .i64 1), .c (.int .i64 9)]), gO 8 (.not (.t 7))]
def q250r16 := [gO 2 (.asg false (.c (.bool false)))]
def q250 : CC := .seq (.reg none q250r16 [0]) (.seq (.seq (.reg none q250r15 [0, 8]) (.cnd (.t 8) (.seq (.reg none q250r14 [2]) (.ret)) (.skip))) (.seq (.seq (.reg none q250r13 [0, 9, 10, 11]) (.blk 0 (.loop q250b0 [0, 9, 10, 11]))) (.seq (.reg none q250r0 [2]) (.ret))))
abbrev L_impl_IsPlay_0 (P : Program) (E : Env) (r : List RV) : Prop := Run P [.tmp 2] (.code q250b0 :: .lp q250b0 [0, 9, 10, 11] :: [.blk 0, .code (.seq (.reg none q250r0 [2]) (.ret))]) E r
theorem k250 : chkF PP Tryz.f250 q250 [.tmp 2] = true := by kernel_rfl
theorem S_impl_IsPlay : SOf PP Tryz.f250 83 [.tmp 2] q250 F_impl_IsPlay := fun hs hn h => callsOK Tryz.func250 k250 hs hn h

def q251r0 := [gO 2 (.asg false (.c (.bool true)))]
def q251r1 := [gV 30 3, gO 31 (.bin .add (.t 30) (xI 1)), gO 3 (.asg true (.t 31))]
def q251r2 := [gO 2 (.asg false (.c (.bool false)))]
def q251r3 := [gO 32 (.fld (.t 1) 2), gO 33 (.ld (.t 32)), gV 34 3, gO 35 (.sidx (.t 33) (.t 34)), gO 36 (.bin .neq (.t 35) (.c (.int .u8 35))), gV 37 36, gY 38 37 (.fld (.t 1) 2), gY 39 37 (.ld (.t 38)), gY 40 37 (.mv (.t 3)), gY 41 37 (.sidx (.t 39) (.t 40)), gY 42 37 (.bin .neq (.t 41) (.c (.int .u8 46))), gO 43 (.pick (.t 37) (.t 42) (.c (.bool false)))]
def q251r4 := [gV 25 3, gO 26 (.fld (.t 1) 2), gO 27 (.ld (.t 26)), gO 28 (.slen (.t 27)), gO 29 (.bin .lss (.t 25) (.t 28))]
def q251b0 : CC := .seq (.seq (.reg none q251r4 [1, 3, 29]) (.cnd (.t 29) (.skip) (.exit 0))) (.seq (.blk 1 (.seq (.reg none q251r3 [1, 3, 43]) (.cnd (.t 43) (.seq (.reg none q251r2 [2]) (.ret)) (.skip)))) (.reg none q251r1 [1, 3]))
def q251r5 := [gO 3 (.asg false (xI 0))]
def q251r6 := [gO 2 (.asg false (.c (.bool false)))]
def q251r7 := [gO 4 (.fld (.t 1) 0), gO 5 (.ld (.t 4)), gO 6 (.call F_spec_l1In [.t 5, .c (.int .i64 2), .c (.int .i64 6)]), gO 7 (.not (.t 6)), gV 8 7, gN 9 8 (.fld (.t 1) 1), gN 10 8 (.ld (.t 9)), gN 11 8 (.call F_spec_l1In [.t 10, .c (.int .i64 2), .c (.int .i64 6)]), gN 12 8 (.not (.t 11)), gO 13 (.pick (.t 8) (.c (.bool true)) (.t 12)), gV 14 13, gN 15 14 (.fld (.t 1) 2), gN 16 14 (.ld (.t 15)), gN 17 14 (.slen (.t 16)), gN 18 14 (.fld (.t 1) 0), gN 19 14 (.ld (.t 18)), gN 20 14 (.fld (.t 1) 1), gN 21 14 (.ld (.t 20)), gN 22 14 (.bin .mul (.t 19) (.t 21)), gN 23 14 (.bin .neq (.t 17) (.t 22)), gO 24 (.pick (.t 14) (.c (.bool true)) (.t 23))]
def q251r8 := [gO 1 (.box (.t 0)), gO 2 (.asg false (.c (.bool false)))]
def q251 : CC := .seq (.reg none q251r8 [1]) (.seq (.seq (.reg none q251r7 [1, 24]) (.cnd (.t 24) (.seq (.reg none q251r6 [2]) (.ret)) (.skip))) (.seq (.seq (.reg none q251r5 [1, 3]) (.blk 0 (.loop q251b0 [1, 3]))) (.seq (.reg none q251r0 [2]) (.ret))))
abbrev L_spec_IsGrid_0 (P : Program) (E : Env) (r : List RV) : Prop := Run P [.tmp 2] (.code q251b0 :: .lp q251b0 [1, 3] :: [.blk 0, .code (.seq (.reg none q251r0 [2]) (.ret))]) E r
theorem k251 : chkF PP Tryz.f251 q251 [.tmp 2] = true := by kernel_rfl
theorem S_spec_IsGrid : SOf PP Tryz.f251 44 [.tmp 2] q251 F_spec_IsGrid := fun hs hn h => callsOK Tryz.func251 k251 hs hn h

def q252r0 := [gV 62 10, gO 6 (.asg true (.t 62))]
def q252r1 := [gV 60 10, gO 61 (.bin .add (.t 60) (xI 1)), gO 10 (.asg true (.t 61))]
def q252r2 := [gV 44 8, gV 45 10, gO 46 (.bin .add (.t 44) (.t 45)), gV 47 9, gO 48 (.bin .lss (.t 46) (.t 47)), gV 49 48, gY 50 49 (.fld (.t 3) 2), gY 51 49 (.ld (.t 50)), gY 52 49 (.mv (.t 1)), gY 53 49 (.mv (.t 10)), gY 54 49 (.mv (.t 7)), gY 55 49 (.bin .mul (.t 53) (.t 54)), gY 56 49 (.bin .add (.t 52) (.t 55)), gY 57 49 (.sidx (.t 51) (.t 56)), gY 58 49 (.bin .eql (.t 57) (.c (.int .u8 46))), gO 59 (.pick (.t 49) (.t 58) (.c (.bool false)))]
def q252b0 : CC := .seq (.seq (.reg none q252r2 [1, 3, 7, 8, 9, 10, 59]) (.cnd (.t 59) (.skip) (.exit 0))) (.blk 1 (.reg none q252r1 [1, 3, 7, 8, 9, 10]))
def q252r3 := [gO 10 (.asg false (xI 0))]
def q252r4 := [gO 6 (.asg false (xI 0))]
def q252r5 := [gO 26 (.fld (.t 3) 2), gO 27 (.ld (.t 26)), gV 28 1, gO 29 (.sidx (.t 27) (.t 28)), gO 30 (.bin .neq (.t 29) (.c (.int .u8 46))), gV 31 30, gN 32 31 (.mv (.t 8)), gN 33 31 (.bin .gtr (.t 32) (xI 0)), gN 34 31 (.mv (.t 33)), gY 35 34 (.fld (.t 3) 2), gY 36 34 (.ld (.t 35)), gY 37 34 (.mv (.t 1)), gY 38 34 (.mv (.t 7)), gY 39 34 (.bin .sub (.t 37) (.t 38)), gY 40 34 (.sidx (.t 36) (.t 39)), gY 41 34 (.bin .eql (.t 40) (.c (.int .u8 46))), gN 42 31 (.pick (.t 34) (.t 41) (.c (.bool false))), gO 43 (.pick (.t 31) (.c (.bool true)) (.t 42))]
def q252r6 := [gO 24 (.fld (.t 3) 0), gO 25 (.ld (.t 24)), gO 9 (.asg true (.t 25))]
def q252r7 := [gV 20 1, gO 21 (.fld (.t 3) 1), gO 22 (.ld (.t 21)), gO 23 (.bin .quo (.t 20) (.t 22)), gO 8 (.asg true (.t 23))]
def q252r8 := [gO 18 (.fld (.t 3) 1), gO 19 (.ld (.t 18)), gO 7 (.asg true (.t 19))]
def q252r9 := [gV 17 2]
def q252r10 := [gO 15 (.fld (.t 3) 1), gO 16 (.ld (.t 15)), gO 9 (.asg true (.t 16))]
def q252r11 := [gV 11 1, gO 12 (.fld (.t 3) 1), gO 13 (.ld (.t 12)), gO 14 (.bin .rem (.t 11) (.t 13)), gO 8 (.asg true (.t 14))]
def q252r12 := [gO 7 (.asg false (xI 1))]
def q252r13 := [gO 3 (.box (.t 0)), gO 6 (.asg false (xI 0))]
def q252 : CC := .seq (.reg none q252r13 [1, 2, 3]) (.seq (.reg none q252r12 [1, 2, 3, 7]) (.seq (.reg none q252r11 [1, 2, 3, 7, 8]) (.seq (.reg none q252r10 [1, 2, 3, 7, 8, 9]) (.seq (.seq (.reg none q252r9 [1, 3, 7, 8, 9, 17]) (.cnd (.t 17) (.seq (.reg none q252r8 [1, 3, 7]) (.seq (.reg none q252r7 [1, 3, 7, 8]) (.reg none q252r6 [1, 3, 7, 8, 9]))) (.skip))) (.seq (.seq (.reg none q252r5 [1, 3, 7, 8, 9, 43]) (.cnd (.t 43) (.seq (.reg none q252r4 [6]) (.ret)) (.skip))) (.seq (.reg none q252r3 [1, 3, 7, 8, 9, 10]) (.seq (.blk 0 (.loop q252b0 [1, 3, 7, 8, 9, 10])) (.seq (.reg none q252r0 [6]) (.ret)))))))))
abbrev L_spec_l8From_0 (P : Program) (E : Env) (r : List RV) : Prop := Run P [.tmp 6] (.code q252b0 :: .lp q252b0 [1, 3, 7, 8, 9, 10] :: [.blk 0, .code (.seq (.reg none q252r0 [6]) (.ret))]) E r
theorem k252 : chkF PP Tryz.f252 q252 [.tmp 6] = true := by kernel_rfl
theorem S_spec_l8From : SOf PP Tryz.f252 63 [.tmp 6] q252 F_spec_l8From := fun hs hn h => callsOK Tryz.func252 k252 hs hn h

def q253r0 := [gV 27 6, gO 4 (.asg true (.t 27))]
def q253r1 := [gO 26 (.bin .add (.t 14) (xI 1)), gV 14 26]
def q253r2 := [gV 17 6, gO 18 (.fld (.t 3) 2), gO 19 (.ld (.t 18)), gV 20 7, gV 21 5, gO 22 (.bin .mul (.t 20) (.t 21)), gO 23 (.bin .add (.t 19) (.t 22)), gO 24 (.bsl 1 [.t 23]), gO 25 (.app T_int 1 8 (.t 17) (.t 24)), gO 6 (.asg true (.t 25))]
def q253r3 := [gV 16 14, gO 7 (.asg true (.t 16))]
def q253r4 := [gO 15 (.bin .lss (.t 14) (.t 13))]
def q253b0 : CC := .seq (.reg none q253r4 [3, 5, 6, 13, 14, 15]) (.seq (.cnd (.t 15) (.skip) (.exit 0)) (.seq (.blk 1 (.seq (.reg none q253r3 [3, 5, 6, 7, 13, 14]) (.reg none q253r2 [3, 5, 6, 13, 14]))) (.reg none q253r1 [3, 5, 6, 13, 14])))
def q253r5 := [gO 12 (.fld (.t 3) 3), gO 13 (.ld (.t 12)), gO 14 (.mv (xI 0))]
def q253r6 := [gO 6 (.nilo T_int 1 8)]
def q253r7 := [gO 10 (.fld (.t 2) 1), gO 11 (.ld (.t 10)), gO 5 (.asg true (.t 11))]
def q253r8 := [gO 8 (.fld (.t 3) 1), gO 9 (.ld (.t 8))]
def q253r9 := [gO 5 (.asg false (xI 1))]
def q253r10 := [gO 2 (.box (.t 0)), gO 3 (.box (.t 1)), gO 4 (.nilo T_int 1 8)]
def q253 : CC := .seq (.reg none q253r10 [2, 3]) (.seq (.reg none q253r9 [2, 3, 5]) (.seq (.seq (.reg none q253r8 [2, 3, 5, 9]) (.cnd (.t 9) (.reg none q253r7 [3, 5]) (.skip))) (.seq (.reg none q253r6 [3, 5, 6]) (.seq (.seq (.reg none q253r5 [3, 5, 6, 13, 14]) (.blk 0 (.loop q253b0 [3, 5, 6, 13, 14]))) (.seq (.reg none q253r0 [4]) (.ret))))))
abbrev L_impl_cells_0 (P : Program) (E : Env) (r : List RV) : Prop := Run P [.tmp 4] (.code q253b0 :: .lp q253b0 [3, 5, 6, 13, 14] :: [.blk 0, .code (.seq (.reg none q253r0 [4]) (.ret))]) E r
theorem k253 : chkF PP Tryz.f253 q253 [.tmp 4] = true := by kernel_rfl
theorem S_impl_cells : SOf PP Tryz.f253 28 [.tmp 4] q253 F_impl_cells := fun hs hn h => callsOK Tryz.func253 k253 hs hn h

def q254r0 := [gV 3 0, gO 4 (.bin .geq (.t 3) (.c (.int .u8 97))), gV 5 4, gY 6 5 (.mv (.t 0)), gY 7 5 (.bin .leq (.t 6) (.c (.int .u8 122))), gO 8 (.pick (.t 5) (.t 7) (.c (.bool false))), gO 2 (.asg true (.t 8))]
def q254r1 := [gO 2 (.asg false (.c (.bool false)))]
def q254 : CC := .seq (.reg none q254r1 [0]) (.seq (.reg none q254r0 [2]) (.ret))
theorem k254 : chkF PP Tryz.f254 q254 [.tmp 2] = true := by kernel_rfl
theorem S_impl_isLetter : SOf PP Tryz.f254 9 [.tmp 2] q254 F_impl_isLetter := fun hs hn h => callsOK Tryz.func254 k254 hs hn h

def q255r0 := [gO 2 (.asg false (.c (.bool true)))]
def q255r1 := [gO 43 (.bin .add (.t 28) (xI 1)), gV 28 43]
def q255r2 := [gO 2 (.asg false (.c (.bool false)))]
def q255r3 := [gO 31 (.fld (.t 1) 2), gO 32 (.ld (.t 31)), gV 33 3, gO 34 (.sidx (.t 32) (.t 33)), gO 35 (.bin .neq (.t 34) (.c (.int .u8 35))), gV 36 35, gY 37 36 (.fld (.t 1) 2), gY 38 36 (.ld (.t 37)), gY 39 36 (.mv (.t 3)), gY 40 36 (.sidx (.t 38) (.t 39)), gY 41 36 (.bin .neq (.t 40) (.c (.int .u8 46))), gO 42 (.pick (.t 36) (.t 41) (.c (.bool false)))]
def q255r4 := [gV 30 28, gO 3 (.asg true (.t 30))]
def q255r5 := [gO 29 (.bin .lss (.t 28) (.t 27))]
def q255b0 : CC := .seq (.reg none q255r5 [1, 27, 28, 29]) (.seq (.cnd (.t 29) (.skip) (.exit 0)) (.seq (.blk 1 (.seq (.reg none q255r4 [1, 3, 27, 28]) (.seq (.reg none q255r3 [1, 27, 28, 42]) (.cnd (.t 42) (.seq (.reg none q255r2 [2]) (.ret)) (.skip))))) (.reg none q255r1 [1, 27, 28])))
def q255r6 := [gO 25 (.fld (.t 1) 2), gO 26 (.ld (.t 25)), gO 27 (.slen (.t 26)), gO 28 (.mv (xI 0))]
def q255r7 := [gO 2 (.asg false (.c (.bool false)))]
def q255r8 := [gO 4 (.fld (.t 1) 0), gO 5 (.ld (.t 4)), gO 6 (.call F_impl_InRange [.t 5, .c (.int .i64 2), .c (.int .i64 6)]), gO 7 (.not (.t 6)), gV 8 7, gN 9 8 (.fld (.t 1) 1), gN 10 8 (.ld (.t 9)), gN 11 8 (.call F_impl_InRange [.t 10, .c (.int .i64 2), .c (.int .i64 6)]), gN 12 8 (.not (.t 11)), gO 13 (.pick (.t 8) (.c (.bool true)) (.t 12)), gV 14 13, gN 15 14 (.fld (.t 1) 2), gN 16 14 (.ld (.t 15)), gN 17 14 (.slen (.t 16)), gN 18 14 (.fld (.t 1) 0), gN 19 14 (.ld (.t 18)), gN 20 14 (.fld (.t 1) 1), gN 21 14 (.ld (.t 20)), gN 22 14 (.bin .mul (.t 19) (.t 21)), gN 23 14 (.bin .neq (.t 17) (.t 22)), gO 24 (.pick (.t 14) (.c (.bool true)) (.t 23))]
def q255r9 := [gO 1 (.box (.t 0)), gO 2 (.asg false (.c (.bool false)))]
def q255 : CC := .seq (.reg none q255r9 [1]) (.seq (.seq (.reg none q255r8 [1, 24]) (.cnd (.t 24) (.seq (.reg none q255r7 [2]) (.ret)) (.skip))) (.seq (.seq (.reg none q255r6 [1, 27, 28]) (.blk 0 (.loop q255b0 [1, 27, 28]))) (.seq (.reg none q255r0 [2]) (.ret))))
abbrev L_impl_IsGrid_0 (P : Program) (E : Env) (r : List RV) : Prop := Run P [.tmp 2] (.code q255b0 :: .lp q255b0 [1, 27, 28] :: [.blk 0, .code (.seq (.reg none q255r0 [2]) (.ret))]) E r
theorem k255 : chkF PP Tryz.f255 q255 [.tmp 2] = true := by kernel_rfl
theorem S_impl_IsGrid : SOf PP Tryz.f255 44 [.tmp 2] q255 F_impl_IsGrid := fun hs hn h => callsOK Tryz.func255 k255 hs hn h

def q259r0 := [gO 3 (.lda 3 (.t 1)), gO 4 (.call F_spec_IsGrid [.t 3]), gV 5 4, gY 6 5 (.lda 3 (.t 1)), gY 7 5 (.call F_spec_TurnGrid [.t 6]), gY 8 5 (.lda 3 (.t 1)), gY 9 5 (.eqa [.int, .int, .str] false (.t 7) (.t 8)), gO 10 (.pick (.t 5) (.t 9) (.c (.bool false))), gV 2 10]
def q259r1 := [gO 1 (.box (.t 0)), gO 2 (.asg false (.c (.bool false)))]
def q259 : CC := .seq (.reg none q259r1 [1]) (.seq (.reg (some (9, [[], [0], [0, 1], [0, 1, 2], [0, 1, 2, 3], [0, 1, 2], [0, 1, 2, 3, 4, 5], [0, 1, 2, 3, 4, 5, 6], [0, 1, 2, 3, 4, 5, 6, 7]])) q259r0 [2]) (.ret))
theorem k259 : chkF PP Tryz.f259 q259 [.tmp 2] = true := by kernel_rfl
theorem S_spec_IsSymmetric : SOf PP Tryz.f259 11 [.tmp 2] q259 F_spec_IsSymmetric := fun hs hn h => callsOK Tryz.func259 k259 hs hn h

def q260r0 := [gO 3 (.lda 3 (.t 1)), gO 4 (.call F_spec_PartsOf [.t 3]), gO 5 (.bin .eql (.t 4) (xI 1)), gO 2 (.asg true (.t 5))]
def q260r1 := [gO 1 (.box (.t 0)), gO 2 (.asg false (.c (.bool false)))]
def q260 : CC := .seq (.reg none q260r1 [1]) (.seq (.reg none q260r0 [2]) (.ret))
theorem k260 : chkF PP Tryz.f260 q260 [.tmp 2] = true := by kernel_rfl
theorem S_spec_IsConnected : SOf PP Tryz.f260 6 [.tmp 2] q260 F_spec_IsConnected := fun hs hn h => callsOK Tryz.func260 k260 hs hn h

def q261r0 := [gO 2 (.asg false (.c (.bool false)))]
def q261r1 := [gV 11 4, gO 12 (.bin .add (.t 11) (xI 1)), gO 4 (.asg true (.t 12))]
def q261r2 := [gO 2 (.asg false (.c (.bool true)))]
def q261r3 := [gV 13 3, gV 14 4, gO 15 (.idx 4 (.t 13) (.t 14)), gO 16 (.fld (.t 15) 3), gO 17 (.ld (.t 16)), gO 18 (.bin .lss (.t 17) (xI 3))]
def q261r4 := [gV 7 4, gV 8 3, gO 9 (.len (.t 8)), gO 10 (.bin .lss (.t 7) (.t 9))]
def q261b0 : CC := .seq (.seq (.reg none q261r4 [3, 4, 10]) (.cnd (.t 10) (.skip) (.exit 0))) (.seq (.blk 1 (.seq (.reg none q261r3 [3, 4, 18]) (.cnd (.t 18) (.seq (.reg none q261r2 [2]) (.ret)) (.skip)))) (.reg none q261r1 [3, 4]))
def q261r5 := [gO 4 (.asg false (xI 0))]
def q261r6 := [gO 5 (.lda 3 (.t 1)), gO 6 (.call F_spec_SlotsOf [.t 5]), gO 3 (.asg true (.t 6))]
def q261r7 := [gO 1 (.box (.t 0)), gO 2 (.asg false (.c (.bool false)))]
def q261 : CC := .seq (.reg none q261r7 [1]) (.seq (.reg none q261r6 [3]) (.seq (.seq (.reg none q261r5 [3, 4]) (.blk 0 (.loop q261b0 [3, 4]))) (.seq (.reg none q261r0 [2]) (.ret))))
abbrev L_spec_l10Short_0 (P : Program) (E : Env) (r : List RV) : Prop := Run P [.tmp 2] (.code q261b0 :: .lp q261b0 [3, 4] :: [.blk 0, .code (.seq (.reg none q261r0 [2]) (.ret))]) E r
theorem k261 : chkF PP Tryz.f261 q261 [.tmp 2] = true := by kernel_rfl
theorem S_spec_l10Short : SOf PP Tryz.f261 19 [.tmp 2] q261 F_spec_l10Short := fun hs hn h => callsOK Tryz.func261 k261 hs hn h

end Go.Rd
