import Derived.Test.YtkdgipcfodmceaaGreatNames
/- The texts of the functions, each checked against the program. No condition. -/
set_option maxRecDepth 100000
namespace Go.Rd
open Go.Proofs
def q262r0 := [gO 2 (.asg false (.c (.bool false)))]
def q262r1 := [gV 29 5, gO 30 (.bin .add (.t 29) (xI 1)), gO 5 (.asg true (.t 30))]
def q262r2 := [gO 2 (.asg false (.c (.bool true)))]
def q262r3 := [gO 31 (.lda 3 (.t 1)), gV 32 5, gO 33 (.call F_spec_IsWhite [.t 31, .t 32]), gV 34 33, gY 35 34 (.lda 3 (.t 1)), gY 36 34 (.mv (.t 5)), gY 37 34 (.call F_spec_SlotsAt [.t 35, .t 36]), gY 38 34 (.len (.t 37)), gY 39 34 (.bin .eql (.t 38) (xI 0)), gO 40 (.pick (.t 34) (.t 39) (.c (.bool false)))]
def q262r4 := [gV 24 5, gO 25 (.fld (.t 1) 2), gO 26 (.ld (.t 25)), gO 27 (.slen (.t 26)), gO 28 (.bin .lss (.t 24) (.t 27))]
def q262b0 : CC := .seq (.seq (.reg none q262r4 [1, 5, 28]) (.cnd (.t 28) (.skip) (.exit 2))) (.seq (.blk 3 (.seq (.reg none q262r3 [1, 5, 40]) (.cnd (.t 40) (.seq (.reg none q262r2 [2]) (.ret)) (.skip)))) (.reg none q262r1 [1, 5]))
def q262r5 := [gO 5 (.asg false (xI 0))]
def q262r6 := [gV 12 4, gO 13 (.bin .add (.t 12) (xI 1)), gO 4 (.asg true (.t 13))]
def q262r7 := [gO 2 (.asg false (.c (.bool true)))]
def q262r8 := [gO 14 (.lda 3 (.t 1)), gV 15 4, gO 16 (.call F_spec_UncheckedIn [.t 14, .t 15]), gO 17 (.bin .mul (xI 2) (.t 16)), gV 18 3, gV 19 4, gO 20 (.idx 4 (.t 18) (.t 19)), gO 21 (.fld (.t 20) 3), gO 22 (.ld (.t 21)), gO 23 (.bin .gtr (.t 17) (.t 22))]
def q262r9 := [gV 8 4, gV 9 3, gO 10 (.len (.t 9)), gO 11 (.bin .lss (.t 8) (.t 10))]
def q262b1 : CC := .seq (.seq (.reg none q262r9 [1, 3, 4, 11]) (.cnd (.t 11) (.skip) (.exit 0))) (.seq (.blk 1 (.seq (.reg (some (10, [[], [], [0, 1], [0, 1, 2], [], [], [4, 5], [4, 5, 6], [4, 5, 6, 7], [0, 1, 2, 3, 4, 5, 6, 7, 8]])) q262r8 [1, 3, 4, 23]) (.cnd (.t 23) (.seq (.reg none q262r7 [2]) (.ret)) (.skip)))) (.reg none q262r6 [1, 3, 4]))
def q262r10 := [gO 4 (.asg false (xI 0))]
def q262r11 := [gO 6 (.lda 3 (.t 1)), gO 7 (.call F_spec_SlotsOf [.t 6]), gO 3 (.asg true (.t 7))]
def q262r12 := [gO 1 (.box (.t 0)), gO 2 (.asg false (.c (.bool false)))]
def q262 : CC := .seq (.reg none q262r12 [1]) (.seq (.reg none q262r11 [1, 3]) (.seq (.seq (.reg none q262r10 [1, 3, 4]) (.blk 0 (.loop q262b1 [1, 3, 4]))) (.seq (.seq (.reg none q262r5 [1, 5]) (.blk 2 (.loop q262b0 [1, 5]))) (.seq (.reg none q262r0 [2]) (.ret)))))
abbrev L_spec_l10Alone_0 (P : Program) (E : Env) (r : List RV) : Prop := Run P [.tmp 2] (.code q262b0 :: .lp q262b0 [1, 5] :: [.blk 2, .code (.seq (.reg none q262r0 [2]) (.ret))]) E r
abbrev L_spec_l10Alone_1 (P : Program) (E : Env) (r : List RV) : Prop := Run P [.tmp 2] (.code q262b1 :: .lp q262b1 [1, 3, 4] :: [.blk 0, .code (.seq (.seq (.reg none q262r5 [1, 5]) (.blk 2 (.loop q262b0 [1, 5]))) (.seq (.reg none q262r0 [2]) (.ret)))]) E r
theorem k262 : chkF PP Tryz.f262 q262 [.tmp 2] = true := by kernel_rfl
theorem S_spec_l10Alone : SOf PP Tryz.f262 41 [.tmp 2] q262 F_spec_l10Alone := fun hs hn h => callsOK Tryz.func262 k262 hs hn h

def q263r0 := [gO 3 (.lda 3 (.t 1)), gO 4 (.call F_impl_IsGrid [.t 3]), gV 5 4, gY 6 5 (.lda 3 (.t 1)), gY 7 5 (.lda 3 (.t 1)), gY 8 5 (.call F_impl_TurnGrid [.t 7]), gY 9 5 (.eqa [.int, .int, .str] false (.t 6) (.t 8)), gO 10 (.pick (.t 5) (.t 9) (.c (.bool false))), gV 2 10]
def q263r1 := [gO 1 (.box (.t 0)), gO 2 (.asg false (.c (.bool false)))]
def q263 : CC := .seq (.reg none q263r1 [1]) (.seq (.reg (some (9, [[], [0], [0, 1], [0, 1, 2], [0, 1, 2], [0, 1, 2, 4], [0, 1, 2, 3, 4, 5], [0, 1, 2, 3, 4, 5, 6], [0, 1, 2, 3, 4, 5, 6, 7]])) q263r0 [2]) (.ret))
theorem k263 : chkF PP Tryz.f263 q263 [.tmp 2] = true := by kernel_rfl
theorem S_impl_IsSymmetric : SOf PP Tryz.f263 11 [.tmp 2] q263 F_impl_IsSymmetric := fun hs hn h => callsOK Tryz.func263 k263 hs hn h

def q264r0 := [gO 3 (.lda 3 (.t 1)), gO 4 (.call F_impl_PartsOf [.t 3]), gO 5 (.bin .eql (.t 4) (xI 1)), gO 2 (.asg true (.t 5))]
def q264r1 := [gO 1 (.box (.t 0)), gO 2 (.asg false (.c (.bool false)))]
def q264 : CC := .seq (.reg none q264r1 [1]) (.seq (.reg none q264r0 [2]) (.ret))
theorem k264 : chkF PP Tryz.f264 q264 [.tmp 2] = true := by kernel_rfl
theorem S_impl_IsConnected : SOf PP Tryz.f264 6 [.tmp 2] q264 F_impl_IsConnected := fun hs hn h => callsOK Tryz.func264 k264 hs hn h

def q265r0 := [gV 32 6, gO 4 (.asg true (.t 32))]
def q265r1 := [gO 31 (.bin .add (.t 21) (xI 1)), gV 21 31]
def q265r2 := [gV 29 6, gO 30 (.bin .add (.t 29) (xI 1)), gO 6 (.asg true (.t 30))]
def q265r3 := [gO 25 (.lda 3 (.t 2)), gV 26 8, gO 27 (.call F_impl_IsChecked [.t 25, .t 26]), gO 28 (.not (.t 27))]
def q265r4 := [gO 23 (.idx 1 (.t 19) (.t 21)), gO 24 (.ld (.t 23)), gO 8 (.asg true (.t 24))]
def q265r5 := [gO 22 (.bin .lss (.t 21) (.t 20))]
def q265b0 : CC := .seq (.reg none q265r5 [2, 6, 19, 20, 21, 22]) (.seq (.cnd (.t 22) (.skip) (.exit 0)) (.seq (.blk 1 (.seq (.reg none q265r4 [2, 6, 8, 19, 20, 21]) (.seq (.reg none q265r3 [2, 6, 19, 20, 21, 28]) (.cnd (.t 28) (.reg none q265r2 [2, 6, 19, 20, 21]) (.skip))))) (.reg none q265r1 [2, 6, 19, 20, 21])))
def q265r6 := [gV 16 5, gV 17 1, gO 18 (.idx 1 (.t 16) (.t 17)), gO 19 (.ld (.t 18)), gO 20 (.len (.t 19)), gO 21 (.mv (xI 0))]
def q265r7 := [gO 6 (.asg false (xI 0))]
def q265r8 := [gO 4 (.asg false (.c (.int .i64 (-1))))]
def q265r9 := [gV 11 1, gV 12 5, gO 13 (.len (.t 12)), gO 14 (.call F_impl_at [.t 11, .t 13]), gO 15 (.not (.t 14))]
def q265r10 := [gO 9 (.lda 3 (.t 2)), gO 10 (.call F_impl_layout [.t 9]), gO 5 (.asg true (.t 10))]
def q265r11 := [gO 2 (.box (.t 0)), gO 4 (.asg false (xI 0))]
def q265 : CC := .seq (.reg none q265r11 [1, 2]) (.seq (.reg none q265r10 [1, 2, 5]) (.seq (.seq (.reg none q265r9 [1, 2, 5, 15]) (.cnd (.t 15) (.seq (.reg none q265r8 [4]) (.ret)) (.skip))) (.seq (.reg none q265r7 [1, 2, 5, 6]) (.seq (.seq (.reg none q265r6 [2, 6, 19, 20, 21]) (.blk 0 (.loop q265b0 [2, 6, 19, 20, 21]))) (.seq (.reg none q265r0 [4]) (.ret))))))
abbrev L_impl_UncheckedIn_0 (P : Program) (E : Env) (r : List RV) : Prop := Run P [.tmp 4] (.code q265b0 :: .lp q265b0 [2, 6, 19, 20, 21] :: [.blk 0, .code (.seq (.reg none q265r0 [4]) (.ret))]) E r
theorem k265 : chkF PP Tryz.f265 q265 [.tmp 4] = true := by kernel_rfl
theorem S_impl_UncheckedIn : SOf PP Tryz.f265 33 [.tmp 4] q265 F_impl_UncheckedIn := fun hs hn h => callsOK Tryz.func265 k265 hs hn h

def q266r0 := [gO 4 (.asg false (.c (.bool false)))]
def q266r1 := [gO 53 (.bin .add (.t 32) (xI 1)), gV 32 53]
def q266r2 := [gO 4 (.asg false (.c (.bool true)))]
def q266r3 := [gO 35 (.fld (.t 2) 2), gO 36 (.ld (.t 35)), gV 37 10, gO 38 (.sidx (.t 36) (.t 37)), gO 39 (.bin .eql (.t 38) (.c (.int .u8 46))), gV 40 39, gY 41 40 (.mv (.t 5)), gY 42 40 (.mv (.t 10)), gY 43 40 (.mpl T_map_int_int (.t 41) (.t 42)), gY 44 40 (.bin .eql (.t 43) (xI 0)), gO 45 (.pick (.t 40) (.t 44) (.c (.bool false))), gV 46 45, gY 47 46 (.mv (.t 1)), gY 48 46 (.mv (.t 10)), gY 49 46 (.sidx (.t 47) (.t 48)), gY 50 46 (.call F_impl_isLetter [.t 49]), gY 51 46 (.not (.t 50)), gO 52 (.pick (.t 46) (.t 51) (.c (.bool false)))]
def q266r4 := [gV 34 32, gO 10 (.asg true (.t 34))]
def q266r5 := [gO 33 (.bin .lss (.t 32) (.t 31))]
def q266b0 : CC := .seq (.reg none q266r5 (nL [1, 2, 5, 31, 32, 33])) (.seq (.cnd (.t 33) (.skip) (.exit 4)) (.seq (.blk 5 (.seq (.reg none q266r4 (nL [1, 2, 5, 10, 31, 32])) (.seq (.reg none q266r3 (nL [1, 2, 5, 31, 32, 52])) (.cnd (.t 52) (.seq (.reg none q266r2 (nL [4])) (.ret)) (.skip))))) (.reg none q266r1 (nL [1, 2, 5, 31, 32]))))
def q266r6 := [gO 29 (.fld (.t 2) 2), gO 30 (.ld (.t 29)), gO 31 (.slen (.t 30)), gO 32 (.mv (xI 0))]
def q266r7 := [gO 28 (.bin .add (.t 15) (xI 1)), gV 15 28]
def q266r8 := [gO 27 (.bin .add (.t 21) (xI 1)), gV 21 27]
def q266r9 := [gV 25 5, gV 26 9, gS (.mpu T_map_int_int (.t 25) (.t 26) (xI 1))]
def q266r10 := [gO 23 (.idx 1 (.t 19) (.t 21)), gO 24 (.ld (.t 23)), gO 9 (.asg true (.t 24))]
def q266r11 := [gO 22 (.bin .lss (.t 21) (.t 20))]
def q266b2 : CC := .seq (.reg none q266r11 (nL [1, 2, 5, 7, 13, 14, 15, 19, 20, 21, 22])) (.seq (.cnd (.t 22) (.skip) (.exit 2)) (.seq (.blk 3 (.seq (.reg none q266r10 (nL [1, 2, 5, 7, 9, 13, 14, 15, 19, 20, 21])) (.reg none q266r9 (nL [1, 2, 5, 7, 13, 14, 15, 19, 20, 21])))) (.reg none q266r8 (nL [1, 2, 5, 7, 13, 14, 15, 19, 20, 21]))))
def q266r12 := [gV 19 7, gO 20 (.len (.t 19)), gO 21 (.mv (xI 0))]
def q266r13 := [gO 17 (.idx 1 (.t 13) (.t 15)), gO 18 (.ld (.t 17)), gO 7 (.asg true (.t 18))]
def q266r14 := [gO 16 (.bin .lss (.t 15) (.t 14))]
def q266b1 : CC := .seq (.reg none q266r14 (nL [1, 2, 5, 13, 14, 15, 16])) (.seq (.cnd (.t 16) (.skip) (.exit 0)) (.seq (.blk 1 (.seq (.reg none q266r13 (nL [1, 2, 5, 7, 13, 14, 15])) (.seq (.reg none q266r12 (nL [1, 2, 5, 7, 13, 14, 15, 19, 20, 21])) (.blk 2 (.loop q266b2 (nL [1, 2, 5, 7, 13, 14, 15, 19, 20, 21])))))) (.reg none q266r7 (nL [1, 2, 5, 13, 14, 15]))))
def q266r15 := [gO 12 (.lda 3 (.t 2)), gO 13 (.call F_impl_layout [.t 12]), gO 14 (.len (.t 13)), gO 15 (.mv (xI 0))]
def q266r16 := [gO 11 (.mkm T_map_int_int), gO 5 (.asg true (.t 11))]
def q266r17 := [gO 2 (.box (.t 0)), gO 4 (.asg false (.c (.bool false)))]
def q266 : CC := .seq (.reg none q266r17 (nL [1, 2])) (.seq (.reg none q266r16 (nL [1, 2, 5])) (.seq (.seq (.reg none q266r15 (nL [1, 2, 5, 13, 14, 15])) (.blk 0 (.loop q266b1 (nL [1, 2, 5, 13, 14, 15])))) (.seq (.seq (.reg none q266r6 (nL [1, 2, 5, 31, 32])) (.blk 4 (.loop q266b0 (nL [1, 2, 5, 31, 32])))) (.seq (.reg none q266r0 (nL [4])) (.ret)))))
abbrev L_impl_alone_0 (P : Program) (Q : Env → Prop) (E : Env) : Prop := RunQ P Q (.code q266b0 :: .lp q266b0 (nL [1, 2, 5, 31, 32]) :: [.blk 4, .code (.seq (.reg none q266r0 (nL [4])) (.ret))]) E
abbrev L_impl_alone_2 (P : Program) (Q : Env → Prop) (E : Env) : Prop := RunQ P Q (.code q266b2 :: .lp q266b2 (nL [1, 2, 5, 7, 13, 14, 15, 19, 20, 21]) :: [.blk 2, .blk 1, .code (.reg none q266r7 (nL [1, 2, 5, 13, 14, 15])), .lp q266b1 (nL [1, 2, 5, 13, 14, 15]), .blk 0, .code (.seq (.seq (.reg none q266r6 (nL [1, 2, 5, 31, 32])) (.blk 4 (.loop q266b0 (nL [1, 2, 5, 31, 32])))) (.seq (.reg none q266r0 (nL [4])) (.ret)))]) E
abbrev L_impl_alone_1 (P : Program) (Q : Env → Prop) (E : Env) : Prop := RunQ P Q (.code q266b1 :: .lp q266b1 (nL [1, 2, 5, 13, 14, 15]) :: [.blk 0, .code (.seq (.seq (.reg none q266r6 (nL [1, 2, 5, 31, 32])) (.blk 4 (.loop q266b0 (nL [1, 2, 5, 31, 32])))) (.seq (.reg none q266r0 (nL [4])) (.ret)))]) E
theorem k266 : chkF PP Tryz.f266 q266 [.tmp 4] = true := by kernel_rfl
theorem SQ_impl_alone : SQOf PP Tryz.f266 54 [.tmp 4] q266 F_impl_alone := fun ni no hs hn hni hno h => callsH_of_run ni no Tryz.func266 k266 hs hn hni hno (fun u => h u _ (fun _ h => h))

def q267r0 := [gV 62 10, gO 6 (.asg true (.t 62))]
def q267r1 := [gV 60 10, gO 61 (.bin .add (.t 60) (xI 1)), gO 10 (.asg true (.t 61))]
def q267r2 := [gV 44 8, gV 45 10, gO 46 (.bin .add (.t 44) (.t 45)), gV 47 9, gO 48 (.bin .lss (.t 46) (.t 47)), gV 49 48, gY 50 49 (.fld (.t 3) 2), gY 51 49 (.ld (.t 50)), gY 52 49 (.mv (.t 1)), gY 53 49 (.mv (.t 10)), gY 54 49 (.mv (.t 7)), gY 55 49 (.bin .mul (.t 53) (.t 54)), gY 56 49 (.bin .add (.t 52) (.t 55)), gY 57 49 (.sidx (.t 51) (.t 56)), gY 58 49 (.bin .eql (.t 57) (.c (.int .u8 46))), gO 59 (.pick (.t 49) (.t 58) (.c (.bool false)))]
def q267b0 : CC := .seq (.seq (.reg none q267r2 [1, 3, 7, 8, 9, 10, 59]) (.cnd (.t 59) (.skip) (.exit 0))) (.blk 1 (.reg none q267r1 [1, 3, 7, 8, 9, 10]))
def q267r3 := [gO 10 (.asg false (xI 0))]
def q267r4 := [gO 6 (.asg false (xI 0))]
def q267r5 := [gO 26 (.fld (.t 3) 2), gO 27 (.ld (.t 26)), gV 28 1, gO 29 (.sidx (.t 27) (.t 28)), gO 30 (.bin .neq (.t 29) (.c (.int .u8 46))), gV 31 30, gN 32 31 (.mv (.t 8)), gN 33 31 (.bin .gtr (.t 32) (xI 0)), gN 34 31 (.mv (.t 33)), gY 35 34 (.fld (.t 3) 2), gY 36 34 (.ld (.t 35)), gY 37 34 (.mv (.t 1)), gY 38 34 (.mv (.t 7)), gY 39 34 (.bin .sub (.t 37) (.t 38)), gY 40 34 (.sidx (.t 36) (.t 39)), gY 41 34 (.bin .eql (.t 40) (.c (.int .u8 46))), gN 42 31 (.pick (.t 34) (.t 41) (.c (.bool false))), gO 43 (.pick (.t 31) (.c (.bool true)) (.t 42))]
def q267r6 := [gO 18 (.fld (.t 3) 1), gO 19 (.ld (.t 18)), gV 20 1, gO 21 (.fld (.t 3) 1), gO 22 (.ld (.t 21)), gO 23 (.bin .quo (.t 20) (.t 22)), gO 24 (.fld (.t 3) 0), gO 25 (.ld (.t 24)), gV 7 19, gV 8 23, gV 9 25]
def q267r7 := [gV 17 2]
def q267r8 := [gV 11 1, gO 12 (.fld (.t 3) 1), gO 13 (.ld (.t 12)), gO 14 (.bin .rem (.t 11) (.t 13)), gO 15 (.fld (.t 3) 1), gO 16 (.ld (.t 15)), gO 7 (.mv (xI 1)), gV 8 14, gV 9 16]
def q267r9 := [gO 3 (.box (.t 0)), gO 6 (.asg false (xI 0))]
def q267 : CC := .seq (.reg none q267r9 [1, 2, 3]) (.seq (.reg (some (9, [[], [], [1], [0, 1, 2], [], [4], [], [0, 1, 2, 3, 6], [0, 1, 2, 3, 4, 5, 6, 7]])) q267r8 [1, 2, 3, 7, 8, 9]) (.seq (.seq (.reg none q267r7 [1, 3, 7, 8, 9, 17]) (.cnd (.t 17) (.reg (some (11, [[], [0], [], [], [3], [2, 3, 4], [], [6], [0, 1], [0, 1, 2, 3, 4, 5, 8], [0, 1, 2, 3, 4, 5, 6, 7, 8, 9]])) q267r6 [1, 3, 7, 8, 9]) (.skip))) (.seq (.seq (.reg none q267r5 [1, 3, 7, 8, 9, 43]) (.cnd (.t 43) (.seq (.reg none q267r4 [6]) (.ret)) (.skip))) (.seq (.reg none q267r3 [1, 3, 7, 8, 9, 10]) (.seq (.blk 0 (.loop q267b0 [1, 3, 7, 8, 9, 10])) (.seq (.reg none q267r0 [6]) (.ret)))))))
abbrev L_impl_run_0 (P : Program) (E : Env) (r : List RV) : Prop := Run P [.tmp 6] (.code q267b0 :: .lp q267b0 [1, 3, 7, 8, 9, 10] :: [.blk 0, .code (.seq (.reg none q267r0 [6]) (.ret))]) E r
theorem k267 : chkF PP Tryz.f267 q267 [.tmp 6] = true := by kernel_rfl
theorem S_impl_run : SOf PP Tryz.f267 63 [.tmp 6] q267 F_impl_run := fun hs hn h => callsOK Tryz.func267 k267 hs hn h

def q268r0 := [gO 4 (.asg false (.c (.int .i64 (-1))))]
def q268r1 := [gO 18 (.bin .add (.t 8) (xI 1)), gV 8 18]
def q268r2 := [gV 17 5, gO 4 (.asg true (.t 17))]
def q268r3 := [gV 11 1, gV 12 0, gV 13 5, gO 14 (.idx 2 (.t 12) (.t 13)), gO 15 (.lda 2 (.t 14)), gO 16 (.callv (.t 11) [.t 15])]
def q268r4 := [gV 10 8, gO 5 (.asg true (.t 10))]
def q268r5 := [gO 9 (.bin .lss (.t 8) (.t 7))]
def q268b0 : CC := .seq (.reg none q268r5 [0, 1, 7, 8, 9]) (.seq (.cnd (.t 9) (.skip) (.exit 0)) (.seq (.blk 1 (.seq (.reg none q268r4 [0, 1, 5, 7, 8]) (.seq (.reg none q268r3 [0, 1, 5, 7, 8, 16]) (.cnd (.t 16) (.seq (.reg none q268r2 [4]) (.ret)) (.skip))))) (.reg none q268r1 [0, 1, 7, 8])))
def q268r6 := [gV 6 0, gO 7 (.len (.t 6)), gO 8 (.mv (xI 0))]
def q268r7 := [gO 4 (.asg false (xI 0))]
def q268 : CC := .seq (.reg none q268r7 [0, 1]) (.seq (.seq (.reg none q268r6 [0, 1, 7, 8]) (.blk 0 (.loop q268b0 [0, 1, 7, 8]))) (.seq (.reg none q268r0 [4]) (.ret)))
abbrev L_slices_IndexFunc_impl_Clue_0 (P : Program) (E : Env) (r : List RV) : Prop := Run P [.tmp 4] (.code q268b0 :: .lp q268b0 [0, 1, 7, 8] :: [.blk 0, .code (.seq (.reg none q268r0 [4]) (.ret))]) E r
theorem k268 : chkF PP Tryz.f268 q268 [.tmp 4] = true := by kernel_rfl
theorem S_slices_IndexFunc_impl_Clue : SOf PP Tryz.f268 19 [.tmp 4] q268 F_slices_IndexFunc_impl_Clue := fun hs hn h => callsOK Tryz.func268 k268 hs hn h

def q269r0 := [gO 4 (.asg false (.c (.bool true)))]
def q269r1 := [gO 25 (.bin .add (.t 13) (xI 1)), gV 13 25]
def q269r2 := [gO 4 (.asg false (.c (.bool false)))]
def q269r3 := [gV 16 0, gV 17 5, gO 18 (.idx 4 (.t 16) (.t 17)), gO 19 (.lda 4 (.t 18)), gV 20 1, gV 21 5, gO 22 (.idx 4 (.t 20) (.t 21)), gO 23 (.lda 4 (.t 22)), gO 24 (.eqa [.int, .str, .int, .int] true (.t 19) (.t 23))]
def q269r4 := [gV 15 13, gO 5 (.asg true (.t 15))]
def q269r5 := [gO 14 (.bin .lss (.t 13) (.t 12))]
def q269b0 : CC := .seq (.reg none q269r5 [0, 1, 12, 13, 14]) (.seq (.cnd (.t 14) (.skip) (.exit 0)) (.seq (.blk 1 (.seq (.reg none q269r4 [0, 1, 5, 12, 13]) (.seq (.reg (some (9, [[], [], [0, 1], [0, 1, 2], [], [], [4, 5], [4, 5, 6], [0, 1, 2, 3, 4, 5, 6, 7]])) q269r3 [0, 1, 12, 13, 24]) (.cnd (.t 24) (.seq (.reg none q269r2 [4]) (.ret)) (.skip))))) (.reg none q269r1 [0, 1, 12, 13])))
def q269r6 := [gV 11 0, gO 12 (.len (.t 11)), gO 13 (.mv (xI 0))]
def q269r7 := [gO 4 (.asg false (.c (.bool false)))]
def q269r8 := [gV 6 0, gO 7 (.len (.t 6)), gV 8 1, gO 9 (.len (.t 8)), gO 10 (.bin .neq (.t 7) (.t 9))]
def q269r9 := [gO 4 (.asg false (.c (.bool false)))]
def q269 : CC := .seq (.reg none q269r9 [0, 1]) (.seq (.seq (.reg none q269r8 [0, 1, 10]) (.cnd (.t 10) (.seq (.reg none q269r7 [4]) (.ret)) (.skip))) (.seq (.seq (.reg none q269r6 [0, 1, 12, 13]) (.blk 0 (.loop q269b0 [0, 1, 12, 13]))) (.seq (.reg none q269r0 [4]) (.ret))))
abbrev L_slices_Equal_impl_Step_0 (P : Program) (E : Env) (r : List RV) : Prop := Run P [.tmp 4] (.code q269b0 :: .lp q269b0 [0, 1, 12, 13] :: [.blk 0, .code (.seq (.reg none q269r0 [4]) (.ret))]) E r
theorem k269 : chkF PP Tryz.f269 q269 [.tmp 4] = true := by kernel_rfl
theorem S_slices_Equal_impl_Step : SOf PP Tryz.f269 26 [.tmp 4] q269 F_slices_Equal_impl_Step := fun hs hn h => callsOK Tryz.func269 k269 hs hn h

def q274r0 := [gO 5 (.bslo T_int 1 8 []), gV 6 0, gO 7 (.app T_int 1 8 (.t 5) (.t 6)), gO 2 (.asg true (.t 7))]
def q274r1 := [gO 2 (.nilo T_int 1 8)]
def q274r2 := [gV 3 0, gO 4 (.isn false (.t 3))]
def q274r3 := [gO 2 (.nilo T_int 1 8)]
def q274 : CC := .seq (.reg none q274r3 [0]) (.seq (.seq (.reg none q274r2 [0, 4]) (.cnd (.t 4) (.seq (.reg none q274r1 [2]) (.ret)) (.skip))) (.seq (.reg none q274r0 [2]) (.ret)))
theorem k274 : chkF PP Tryz.f274 q274 [.tmp 2] = true := by kernel_rfl
theorem S_slices_Clone_int : SOf PP Tryz.f274 8 [.tmp 2] q274 F_slices_Clone_int := fun hs hn h => callsOK Tryz.func274 k274 hs hn h

def q296r0 := [gO 4 (.asg false (.c (.bool true)))]
def q296r1 := [gV 15 5, gO 16 (.bin .add (.t 15) (xI 1)), gO 5 (.asg true (.t 16))]
def q296r2 := [gO 4 (.asg false (.c (.bool false)))]
def q296r3 := [gV 17 0, gV 18 5, gO 19 (.idx 1 (.t 17) (.t 18)), gO 20 (.ld (.t 19)), gV 21 1, gV 22 5, gO 23 (.idx 1 (.t 21) (.t 22)), gO 24 (.ld (.t 23)), gO 25 (.bin .neq (.t 20) (.t 24))]
def q296r4 := [gV 11 5, gV 12 0, gO 13 (.len (.t 12)), gO 14 (.bin .lss (.t 11) (.t 13))]
def q296b0 : CC := .seq (.seq (.reg none q296r4 [0, 1, 5, 14]) (.cnd (.t 14) (.skip) (.exit 0))) (.seq (.blk 1 (.seq (.reg (some (9, [[], [], [0, 1], [0, 1, 2], [], [], [4, 5], [4, 5, 6], [0, 1, 2, 3, 4, 5, 6, 7]])) q296r3 [0, 1, 5, 25]) (.cnd (.t 25) (.seq (.reg none q296r2 [4]) (.ret)) (.skip)))) (.reg none q296r1 [0, 1, 5]))
def q296r5 := [gO 5 (.asg false (xI 0))]
def q296r6 := [gO 4 (.asg false (.c (.bool false)))]
def q296r7 := [gV 6 0, gO 7 (.len (.t 6)), gV 8 1, gO 9 (.len (.t 8)), gO 10 (.bin .neq (.t 7) (.t 9))]
def q296r8 := [gO 4 (.asg false (.c (.bool false)))]
def q296 : CC := .seq (.reg none q296r8 [0, 1]) (.seq (.seq (.reg none q296r7 [0, 1, 10]) (.cnd (.t 10) (.seq (.reg none q296r6 [4]) (.ret)) (.skip))) (.seq (.seq (.reg none q296r5 [0, 1, 5]) (.blk 0 (.loop q296b0 [0, 1, 5]))) (.seq (.reg none q296r0 [4]) (.ret))))
abbrev L_laws_eqIntS_0 (P : Program) (E : Env) (r : List RV) : Prop := Run P [.tmp 4] (.code q296b0 :: .lp q296b0 [0, 1, 5] :: [.blk 0, .code (.seq (.reg none q296r0 [4]) (.ret))]) E r
theorem k296 : chkF PP Tryz.f296 q296 [.tmp 4] = true := by kernel_rfl
theorem S_laws_eqIntS : SOf PP Tryz.f296 26 [.tmp 4] q296 F_laws_eqIntS := fun hs hn h => callsOK Tryz.func296 k296 hs hn h

def q297r0 := [gV 11 1, gO 4 (.asg true (.t 11))]
def q297r1 := [gO 4 (.asg false (.c (.int .i64 (-1))))]
def q297r2 := [gV 9 1, gO 10 (.bin .lss (.t 9) (xI 0))]
def q297r3 := [gV 5 1, gV 6 0, gO 7 (.len (.t 6)), gO 8 (.bin .sub (.t 5) (.t 7)), gO 1 (.asg true (.t 8))]
def q297r4 := [gO 4 (.asg false (xI 0))]
def q297 : CC := .seq (.reg none q297r4 [0, 1]) (.seq (.reg none q297r3 [1]) (.seq (.seq (.reg none q297r2 [1, 10]) (.cnd (.t 10) (.seq (.reg none q297r1 [4]) (.ret)) (.skip))) (.seq (.reg none q297r0 [4]) (.ret))))
theorem k297 : chkF PP Tryz.f297 q297 [.tmp 4] = true := by kernel_rfl
theorem S_laws_szIntS : SOf PP Tryz.f297 12 [.tmp 4] q297 F_laws_szIntS := fun hs hn h => callsOK Tryz.func297 k297 hs hn h

def q298r0 := [gV 79 6, gV 80 79, gN 81 80 (.fld (.t 5) 0), gN 82 80 (.ld (.t 81)), gN 83 80 (.bin .eql (.t 82) (xI 2)), gO 84 (.pick (.t 80) (.c (.bool true)) (.t 83)), gV 85 84, gN 86 85 (.mv (.t 0)), gN 87 85 (.fld (.t 5) 2), gN 88 85 (.ld (.t 87)), gN 89 85 (.idx 4 (.t 86) (.t 88)), gN 90 85 (.fld (.t 89) 0), gN 91 85 (.ld (.t 90)), gN 92 85 (.bin .eql (.t 91) (xI 1)), gO 93 (.pick (.t 85) (.c (.bool true)) (.t 92)), gO 4 (.asg true (.t 93))]
def q298r1 := [gO 4 (.asg false (.c (.bool false)))]
def q298r2 := [gO 53 (.fld (.t 5) 2), gO 54 (.ld (.t 53)), gV 55 1, gO 56 (.bin .sub (.t 55) (xI 1)), gO 57 (.call F_spec_l1In [.t 54, .c (.int .i64 0), .t 56]), gO 58 (.not (.t 57)), gV 59 58, gN 60 59 (.mv (.t 6)), gN 61 59 (.mv (.t 60)), gY 62 61 (.fld (.t 5) 3), gY 63 61 (.ld (.t 62)), gY 64 61 (.mv (.t 1)), gY 65 61 (.bin .sub (.t 64) (xI 1)), gY 66 61 (.call F_spec_l1In [.t 63, .c (.int .i64 0), .t 65]), gY 67 61 (.not (.t 66)), gN 68 59 (.pick (.t 61) (.t 67) (.c (.bool false))), gO 69 (.pick (.t 59) (.c (.bool true)) (.t 68)), gV 70 69, gN 71 70 (.mv (.t 6)), gN 72 70 (.not (.t 71)), gN 73 70 (.mv (.t 72)), gY 74 73 (.fld (.t 5) 3), gY 75 73 (.ld (.t 74)), gY 76 73 (.bin .neq (.t 75) (xI 0)), gN 77 70 (.pick (.t 73) (.t 76) (.c (.bool false))), gO 78 (.pick (.t 70) (.c (.bool true)) (.t 77))]
def q298r3 := [gO 45 (.fld (.t 5) 2), gO 46 (.ld (.t 45)), gO 47 (.bin .eql (.t 46) (xI 0)), gV 48 47, gY 49 48 (.fld (.t 5) 3), gY 50 48 (.ld (.t 49)), gY 51 48 (.bin .eql (.t 50) (xI 0)), gO 52 (.pick (.t 48) (.t 51) (.c (.bool false))), gO 4 (.asg true (.t 52))]
def q298r4 := [gO 42 (.fld (.t 5) 0), gO 43 (.ld (.t 42)), gO 44 (.bin .eql (.t 43) (xI 1))]
def q298r5 := [gO 34 (.fld (.t 5) 0), gO 35 (.ld (.t 34)), gO 36 (.bin .eql (.t 35) (xI 4)), gV 37 36, gN 38 37 (.fld (.t 5) 0), gN 39 37 (.ld (.t 38)), gN 40 37 (.bin .eql (.t 39) (xI 5)), gO 41 (.pick (.t 37) (.c (.bool true)) (.t 40)), gO 6 (.asg true (.t 41))]
def q298r6 := [gO 4 (.asg false (.c (.bool false)))]
def q298r7 := [gO 11 (.fld (.t 5) 0), gO 12 (.ld (.t 11)), gO 13 (.call F_spec_l1In [.t 12, .c (.int .i64 1), .c (.int .i64 9)]), gO 14 (.not (.t 13)), gV 15 14, gN 16 15 (.fld (.t 5) 0), gN 17 15 (.ld (.t 16)), gN 18 15 (.bin .eql (.t 17) (xI 1)), gN 19 15 (.fld (.t 5) 1), gN 20 15 (.ld (.t 19)), gN 21 15 (.call F_spec_IsWord [.t 20]), gN 22 15 (.eqb true (.t 18) (.t 21)), gO 23 (.pick (.t 15) (.c (.bool true)) (.t 22)), gV 24 23, gN 25 24 (.fld (.t 5) 0), gN 26 24 (.ld (.t 25)), gN 27 24 (.bin .neq (.t 26) (xI 1)), gN 28 24 (.mv (.t 27)), gY 29 28 (.fld (.t 5) 1), gY 30 28 (.ld (.t 29)), gY 31 28 (.bin .neq (.t 30) (.c (.str []))), gN 32 24 (.pick (.t 28) (.t 31) (.c (.bool false))), gO 33 (.pick (.t 24) (.c (.bool true)) (.t 32))]
def q298r8 := [gV 7 0, gV 8 1, gO 9 (.idx 4 (.t 7) (.t 8)), gO 10 (.lda 4 (.t 9)), gO 5 (.alc [.int .i64 0, .str [], .int .i64 0, .int .i64 0]), gS (.sto 4 (.t 5) (.t 10))]
def q298r9 := [gO 4 (.asg false (.c (.bool false)))]
def q298 : CC := .seq (.reg none q298r9 [0, 1]) (.seq (.reg none q298r8 [0, 1, 5]) (.seq (.seq (.reg (some (23, [[], [0], [0, 1], [0, 1, 2], [0, 1, 2, 3], [0, 1, 2, 3, 4], [0, 1, 2, 3, 4, 5], [0, 1, 2, 3, 4, 5, 6], [0, 1, 2, 3, 4], [0, 1, 2, 3, 4, 8], [0, 1, 2, 3, 4, 8, 9], [0, 1, 2, 3, 4, 5, 6, 7, 8, 9, 10], [0, 1, 2, 3, 4, 5, 6, 7, 8, 9, 10, 11], [0, 1, 2, 3, 4, 5, 6, 7, 8, 9, 10, 11, 12], [0, 1, 2, 3, 4, 5, 6, 7, 8, 9, 10, 11, 12, 13], [0, 1, 2, 3, 4, 5, 6, 7, 8, 9, 10, 11, 12, 13, 14], [0, 1, 2, 3, 4, 5, 6, 7, 8, 9, 10, 11, 12, 13, 14, 15], [0, 1, 2, 3, 4, 5, 6, 7, 8, 9, 10, 11, 12, 13, 14, 15, 16], [0, 1, 2, 3, 4, 5, 6, 7, 8, 9, 10, 11, 12, 13, 14, 15, 16, 17], [0, 1, 2, 3, 4, 5, 6, 7, 8, 9, 10, 11, 12, 13, 14, 15, 16, 17, 18], [0, 1, 2, 3, 4, 5, 6, 7, 8, 9, 10, 11, 12, 13, 14, 15, 16, 17, 18, 19], [0, 1, 2, 3, 4, 5, 6, 7, 8, 9, 10, 11, 12, 13, 14, 15, 16, 17, 18, 19, 20], [0, 1, 2, 3, 4, 5, 6, 7, 8, 9, 10, 11, 12, 13, 14, 15, 16, 17, 18, 19, 20, 21]])) q298r7 [0, 1, 5, 33]) (.cnd (.t 33) (.seq (.reg none q298r6 [4]) (.ret)) (.skip))) (.seq (.reg none q298r5 [0, 1, 5, 6]) (.seq (.seq (.reg none q298r4 [0, 1, 5, 6, 44]) (.cnd (.t 44) (.seq (.reg none q298r3 [4]) (.ret)) (.skip))) (.seq (.seq (.reg none q298r2 [0, 5, 6, 78]) (.cnd (.t 78) (.seq (.reg none q298r1 [4]) (.ret)) (.skip))) (.seq (.reg none q298r0 [4]) (.ret)))))))
theorem k298 : chkF PP Tryz.f298 q298 [.tmp 4] = true := by kernel_rfl
theorem S_spec_l15Ok : SOf PP Tryz.f298 94 [.tmp 4] q298 F_spec_l15Ok := fun hs hn h => callsOK Tryz.func298 k298 hs hn h

def q299r0 := [gV 21 3, gO 2 (.asg true (.t 21))]
def q299r1 := [gV 12 4, gO 13 (.bin .add (.t 12) (xI 1)), gO 4 (.asg true (.t 13))]
def q299r2 := [gV 14 3, gV 15 4, gV 16 0, gV 17 4, gO 18 (.idx 1 (.t 16) (.t 17)), gO 19 (.ld (.t 18)), gO 20 (.idx 1 (.t 14) (.t 15)), gS (.sto 1 (.t 20) (.t 19))]
def q299r3 := [gV 8 4, gV 9 0, gO 10 (.len (.t 9)), gO 11 (.bin .lss (.t 8) (.t 10))]
def q299b0 : CC := .seq (.seq (.reg none q299r3 [0, 3, 4, 11]) (.cnd (.t 11) (.skip) (.exit 0))) (.seq (.blk 1 (.reg none q299r2 [0, 3, 4])) (.reg none q299r1 [0, 3, 4]))
def q299r4 := [gO 4 (.asg false (xI 0))]
def q299r5 := [gV 5 0, gO 6 (.len (.t 5)), gO 7 (.mks T_int 1 8 [.int .i64 0] (.t 6)), gO 3 (.asg true (.t 7))]
def q299r6 := [gO 2 (.nilo T_int 1 8)]
def q299 : CC := .seq (.reg none q299r6 [0]) (.seq (.reg none q299r5 [0, 3]) (.seq (.seq (.reg none q299r4 [0, 3, 4]) (.blk 0 (.loop q299b0 [0, 3, 4]))) (.seq (.reg none q299r0 [2]) (.ret))))
abbrev L_laws_toIntS_0 (P : Program) (E : Env) (r : List RV) : Prop := Run P [.tmp 2] (.code q299b0 :: .lp q299b0 [0, 3, 4] :: [.blk 0, .code (.seq (.reg none q299r0 [2]) (.ret))]) E r
theorem k299 : chkF PP Tryz.f299 q299 [.tmp 2] = true := by kernel_rfl
theorem S_laws_toIntS : SOf PP Tryz.f299 22 [.tmp 2] q299 F_laws_toIntS := fun hs hn h => callsOK Tryz.func299 k299 hs hn h

def q300r0 := [gV 3 0, gO 4 (.bin .eql (.t 3) (xI 3)), gV 5 4, gN 6 5 (.mv (.t 0)), gN 7 5 (.bin .geq (.t 6) (xI 6)), gO 8 (.pick (.t 5) (.c (.bool true)) (.t 7)), gO 2 (.asg true (.t 8))]
def q300r1 := [gO 2 (.asg false (.c (.bool false)))]
def q300 : CC := .seq (.reg none q300r1 [0]) (.seq (.reg none q300r0 [2]) (.ret))
theorem k300 : chkF PP Tryz.f300 q300 [.tmp 2] = true := by kernel_rfl
theorem S_impl_needsWord : SOf PP Tryz.f300 9 [.tmp 2] q300 F_impl_needsWord := fun hs hn h => callsOK Tryz.func300 k300 hs hn h

def q301r0 := [gV 3 0, gO 4 (.bin .eql (.t 3) (xI 4)), gV 5 4, gN 6 5 (.mv (.t 0)), gN 7 5 (.bin .eql (.t 6) (xI 5)), gO 8 (.pick (.t 5) (.c (.bool true)) (.t 7)), gO 2 (.asg true (.t 8))]
def q301r1 := [gO 2 (.asg false (.c (.bool false)))]
def q301 : CC := .seq (.reg none q301r1 [0]) (.seq (.reg none q301r0 [2]) (.ret))
theorem k301 : chkF PP Tryz.f301 q301 [.tmp 2] = true := by kernel_rfl
theorem S_impl_isPair : SOf PP Tryz.f301 9 [.tmp 2] q301 F_impl_isPair := fun hs hn h => callsOK Tryz.func301 k301 hs hn h

def q302r0 := [gV 29 5, gO 4 (.asg true (.t 29))]
def q302r1 := [gV 15 7, gO 16 (.bin .add (.t 15) (xI 1)), gO 7 (.asg true (.t 16))]
def q302r2 := [gV 25 5, gV 26 7, gO 27 (.bsl 1 [.t 26]), gO 28 (.app T_int 1 8 (.t 25) (.t 27)), gO 5 (.asg true (.t 28))]
def q302r3 := [gO 17 (.lda 3 (.t 2)), gV 18 6, gV 19 7, gO 20 (.idx 4 (.t 18) (.t 19)), gO 21 (.lda 4 (.t 20)), gO 22 (.call F_spec_CellsOf [.t 17, .t 21]), gV 23 1, gO 24 (.call F_spec_l8Has [.t 22, .t 23])]
def q302r4 := [gV 11 7, gV 12 6, gO 13 (.len (.t 12)), gO 14 (.bin .lss (.t 11) (.t 13))]
def q302b0 : CC := .seq (.seq (.reg none q302r4 [1, 2, 5, 6, 7, 14]) (.cnd (.t 14) (.skip) (.exit 0))) (.seq (.blk 1 (.seq (.reg (some (8, [[], [], [], [1, 2], [1, 2, 3], [0, 1, 2, 3, 4], [], [0, 1, 2, 3, 4, 5, 6]])) q302r3 [1, 2, 5, 6, 7, 24]) (.cnd (.t 24) (.reg none q302r2 [1, 2, 5, 6, 7]) (.skip)))) (.reg none q302r1 [1, 2, 5, 6, 7]))
def q302r5 := [gO 7 (.asg false (xI 0))]
def q302r6 := [gO 9 (.lda 3 (.t 2)), gO 10 (.call F_spec_SlotsOf [.t 9]), gO 6 (.asg true (.t 10))]
def q302r7 := [gO 8 (.bslo T_int 1 8 []), gO 5 (.asg true (.t 8))]
def q302r8 := [gO 2 (.box (.t 0)), gO 4 (.nilo T_int 1 8)]
def q302 : CC := .seq (.reg none q302r8 [1, 2]) (.seq (.reg none q302r7 [1, 2, 5]) (.seq (.reg none q302r6 [1, 2, 5, 6]) (.seq (.seq (.reg none q302r5 [1, 2, 5, 6, 7]) (.blk 0 (.loop q302b0 [1, 2, 5, 6, 7]))) (.seq (.reg none q302r0 [4]) (.ret)))))
abbrev L_spec_SlotsAt_0 (P : Program) (E : Env) (r : List RV) : Prop := Run P [.tmp 4] (.code q302b0 :: .lp q302b0 [1, 2, 5, 6, 7] :: [.blk 0, .code (.seq (.reg none q302r0 [4]) (.ret))]) E r
theorem k302 : chkF PP Tryz.f302 q302 [.tmp 4] = true := by kernel_rfl
theorem S_spec_SlotsAt : SOf PP Tryz.f302 30 [.tmp 4] q302 F_spec_SlotsAt := fun hs hn h => callsOK Tryz.func302 k302 hs hn h

def q304r0 := [gO 11 (.lda 3 (.t 1)), gS (.sto 3 (.t 2) (.t 11))]
def q304r1 := [gO 7 (.fld (.t 1) 2), gO 8 (.ld (.t 7)), gO 9 (.call F_spec_Backwards [.t 8]), gO 10 (.fld (.t 1) 2), gS (.sto 1 (.t 10) (.t 9))]
def q304r2 := [gO 6 (.bld [.int .i64 0, .int .i64 0, .str []] []), gS (.sto 3 (.t 2) (.t 6))]
def q304r3 := [gO 3 (.lda 3 (.t 1)), gO 4 (.call F_spec_IsGrid [.t 3]), gO 5 (.not (.t 4))]
def q304r4 := [gO 1 (.box (.t 0)), gO 2 (.alc [.int .i64 0, .int .i64 0, .str []])]
def q304 : CC := .seq (.reg none q304r4 [1, 2]) (.seq (.seq (.reg none q304r3 [1, 2, 5]) (.cnd (.t 5) (.seq (.reg none q304r2 [2]) (.ret)) (.skip))) (.seq (.reg none q304r1 [1, 2]) (.seq (.reg none q304r0 [2]) (.ret))))
theorem k304 : chkF PP Tryz.f304 q304 [.cella 2] = true := by kernel_rfl
theorem S_spec_TurnGrid : SOf PP Tryz.f304 12 [.cella 2] q304 F_spec_TurnGrid := fun hs hn h => callsOK Tryz.func304 k304 hs hn h

def q305r0 := [gV 79 3, gO 2 (.asg true (.t 79))]
def q305r1 := [gV 30 6, gO 31 (.bin .add (.t 30) (xI 1)), gO 6 (.asg true (.t 31))]
def q305r2 := [gV 64 9, gO 65 (.bin .add (.t 64) (xI 1)), gO 9 (.asg true (.t 65))]
def q305r3 := [gV 66 4, gV 67 9, gV 68 4, gV 69 9, gO 70 (.idx 1 (.t 68) (.t 69)), gO 71 (.ld (.t 70)), gV 72 71, gN 73 72 (.mv (.t 7)), gN 74 72 (.mv (.t 9)), gN 75 72 (.idx 1 (.t 73) (.t 74)), gN 76 72 (.ld (.t 75)), gO 77 (.pick (.t 72) (.c (.bool true)) (.t 76)), gO 78 (.idx 1 (.t 66) (.t 67)), gS (.sto 1 (.t 78) (.t 77))]
def q305r4 := [gV 60 9, gV 61 4, gO 62 (.len (.t 61)), gO 63 (.bin .lss (.t 60) (.t 62))]
def q305b1 : CC := .seq (.seq (.reg none q305r4 [1, 3, 4, 6, 7, 9, 63]) (.cnd (.t 63) (.skip) (.exit 6))) (.seq (.blk 7 (.reg none q305r3 [1, 3, 4, 6, 7, 9])) (.reg none q305r2 [1, 3, 4, 6, 7, 9]))
def q305r5 := [gO 9 (.asg false (xI 0))]
def q305r6 := [gO 56 (.lda 3 (.t 1)), gV 57 7, gV 58 6, gO 59 (.callo F_spec_l10Reach [.t 56, .t 57, .t 58]), gO 7 (.asg true (.t 59))]
def q305r7 := [gV 51 8, gO 52 (.bin .add (.t 51) (xI 1)), gO 8 (.asg true (.t 52))]
def q305r8 := [gV 53 7, gO 54 (.bsl 1 [.c (.bool false)]), gO 55 (.app T_bool 1 1 (.t 53) (.t 54)), gO 7 (.asg true (.t 55))]
def q305r9 := [gV 47 8, gV 48 4, gO 49 (.len (.t 48)), gO 50 (.bin .lss (.t 47) (.t 49))]
def q305b2 : CC := .seq (.seq (.reg none q305r9 [1, 3, 4, 6, 7, 8, 50]) (.cnd (.t 50) (.skip) (.exit 4))) (.seq (.blk 5 (.reg none q305r8 [1, 3, 4, 6, 7, 8])) (.reg none q305r7 [1, 3, 4, 6, 7, 8]))
def q305r10 := [gO 8 (.asg false (xI 0))]
def q305r11 := [gO 46 (.bslo T_bool 1 1 []), gO 7 (.asg true (.t 46))]
def q305r12 := [gV 44 3, gO 45 (.bin .add (.t 44) (xI 1)), gO 3 (.asg true (.t 45))]
def q305r13 := [gO 32 (.fld (.t 1) 2), gO 33 (.ld (.t 32)), gV 34 6, gO 35 (.sidx (.t 33) (.t 34)), gO 36 (.bin .eql (.t 35) (.c (.int .u8 46))), gV 37 36, gY 38 37 (.mv (.t 4)), gY 39 37 (.mv (.t 6)), gY 40 37 (.idx 1 (.t 38) (.t 39)), gY 41 37 (.ld (.t 40)), gY 42 37 (.not (.t 41)), gO 43 (.pick (.t 37) (.t 42) (.c (.bool false)))]
def q305r14 := [gV 21 6, gO 22 (.fld (.t 1) 2), gO 23 (.ld (.t 22)), gO 24 (.slen (.t 23)), gO 25 (.bin .lss (.t 21) (.t 24)), gV 26 25, gY 27 26 (.lda 3 (.t 1)), gY 28 26 (.call F_spec_IsGrid [.t 27]), gO 29 (.pick (.t 26) (.t 28) (.c (.bool false)))]
def q305b0 : CC := .seq (.seq (.reg none q305r14 [1, 3, 4, 6, 29]) (.cnd (.t 29) (.skip) (.exit 2))) (.seq (.blk 3 (.seq (.reg none q305r13 [1, 3, 4, 6, 43]) (.cnd (.t 43) (.seq (.reg none q305r12 [1, 3, 4, 6]) (.seq (.reg none q305r11 [1, 3, 4, 6, 7]) (.seq (.seq (.reg none q305r10 [1, 3, 4, 6, 7, 8]) (.blk 4 (.loop q305b2 [1, 3, 4, 6, 7, 8]))) (.seq (.reg none q305r6 [1, 3, 4, 6, 7]) (.seq (.reg none q305r5 [1, 3, 4, 6, 7, 9]) (.blk 6 (.loop q305b1 [1, 3, 4, 6, 7, 9]))))))) (.skip)))) (.reg none q305r1 [1, 3, 4, 6]))
def q305r15 := [gO 6 (.asg false (xI 0))]
def q305r16 := [gV 16 5, gO 17 (.bin .add (.t 16) (xI 1)), gO 5 (.asg true (.t 17))]
def q305r17 := [gV 18 4, gO 19 (.bsl 1 [.c (.bool false)]), gO 20 (.app T_bool 1 1 (.t 18) (.t 19)), gO 4 (.asg true (.t 20))]
def q305r18 := [gV 11 5, gO 12 (.fld (.t 1) 2), gO 13 (.ld (.t 12)), gO 14 (.slen (.t 13)), gO 15 (.bin .lss (.t 11) (.t 14))]
def q305b3 : CC := .seq (.seq (.reg none q305r18 [1, 3, 4, 5, 15]) (.cnd (.t 15) (.skip) (.exit 0))) (.seq (.blk 1 (.reg none q305r17 [1, 3, 4, 5])) (.reg none q305r16 [1, 3, 4, 5]))
def q305r19 := [gO 5 (.asg false (xI 0))]
def q305r20 := [gO 10 (.bslo T_bool 1 1 []), gO 4 (.asg true (.t 10))]
def q305r21 := [gO 3 (.asg false (xI 0))]
def q305r22 := [gO 1 (.box (.t 0)), gO 2 (.asg false (xI 0))]
def q305 : CC := .seq (.reg none q305r22 [1]) (.seq (.reg none q305r21 [1, 3]) (.seq (.reg none q305r20 [1, 3, 4]) (.seq (.seq (.reg none q305r19 [1, 3, 4, 5]) (.blk 0 (.loop q305b3 [1, 3, 4, 5]))) (.seq (.seq (.reg none q305r15 [1, 3, 4, 6]) (.blk 2 (.loop q305b0 [1, 3, 4, 6]))) (.seq (.reg none q305r0 [2]) (.ret))))))
abbrev L_spec_PartsOf_1 (P : Program) (E : Env) (r : List RV) : Prop := Run P [.tmp 2] (.code q305b1 :: .lp q305b1 [1, 3, 4, 6, 7, 9] :: [.blk 6, .blk 3, .code (.reg none q305r1 [1, 3, 4, 6]), .lp q305b0 [1, 3, 4, 6], .blk 2, .code (.seq (.reg none q305r0 [2]) (.ret))]) E r
abbrev L_spec_PartsOf_2 (P : Program) (E : Env) (r : List RV) : Prop := Run P [.tmp 2] (.code q305b2 :: .lp q305b2 [1, 3, 4, 6, 7, 8] :: [.blk 4, .code (.seq (.reg none q305r6 [1, 3, 4, 6, 7]) (.seq (.reg none q305r5 [1, 3, 4, 6, 7, 9]) (.blk 6 (.loop q305b1 [1, 3, 4, 6, 7, 9])))), .blk 3, .code (.reg none q305r1 [1, 3, 4, 6]), .lp q305b0 [1, 3, 4, 6], .blk 2, .code (.seq (.reg none q305r0 [2]) (.ret))]) E r
abbrev L_spec_PartsOf_0 (P : Program) (E : Env) (r : List RV) : Prop := Run P [.tmp 2] (.code q305b0 :: .lp q305b0 [1, 3, 4, 6] :: [.blk 2, .code (.seq (.reg none q305r0 [2]) (.ret))]) E r
abbrev L_spec_PartsOf_3 (P : Program) (E : Env) (r : List RV) : Prop := Run P [.tmp 2] (.code q305b3 :: .lp q305b3 [1, 3, 4, 5] :: [.blk 0, .code (.seq (.seq (.reg none q305r15 [1, 3, 4, 6]) (.blk 2 (.loop q305b0 [1, 3, 4, 6]))) (.seq (.reg none q305r0 [2]) (.ret)))]) E r
theorem k305 : chkF PP Tryz.f305 q305 [.tmp 2] = true := by kernel_rfl
theorem S_spec_PartsOf : SOf PP Tryz.f305 80 [.tmp 2] q305 F_spec_PartsOf := fun hs hn h => callsOK Tryz.func305 k305 hs hn h

def q306r0 := [gV 38 7, gO 4 (.asg true (.t 38))]
def q306r1 := [gV 27 8, gO 28 (.bin .add (.t 27) (xI 1)), gO 8 (.asg true (.t 28))]
def q306r2 := [gV 36 7, gO 37 (.bin .add (.t 36) (xI 1)), gO 7 (.asg true (.t 37))]
def q306r3 := [gO 29 (.lda 3 (.t 2)), gV 30 6, gV 31 8, gO 32 (.idx 1 (.t 30) (.t 31)), gO 33 (.ld (.t 32)), gO 34 (.call F_spec_IsChecked [.t 29, .t 33]), gO 35 (.not (.t 34))]
def q306r4 := [gV 23 8, gV 24 6, gO 25 (.len (.t 24)), gO 26 (.bin .lss (.t 23) (.t 25))]
def q306b0 : CC := .seq (.seq (.reg none q306r4 [2, 6, 7, 8, 26]) (.cnd (.t 26) (.skip) (.exit 0))) (.seq (.blk 1 (.seq (.reg (some (7, [[], [], [], [1, 2], [1, 2, 3], [0, 1, 2, 3, 4], [0, 1, 2, 3, 4, 5]])) q306r3 [2, 6, 7, 8, 35]) (.cnd (.t 35) (.reg none q306r2 [2, 6, 7, 8]) (.skip)))) (.reg none q306r1 [2, 6, 7, 8]))
def q306r5 := [gO 8 (.asg false (xI 0))]
def q306r6 := [gO 7 (.asg false (xI 0))]
def q306r7 := [gO 17 (.lda 3 (.t 2)), gV 18 5, gV 19 1, gO 20 (.idx 4 (.t 18) (.t 19)), gO 21 (.lda 4 (.t 20)), gO 22 (.call F_spec_CellsOf [.t 17, .t 21]), gV 6 22]
def q306r8 := [gO 4 (.asg false (.c (.int .i64 (-1))))]
def q306r9 := [gV 11 1, gV 12 5, gO 13 (.len (.t 12)), gO 14 (.bin .sub (.t 13) (xI 1)), gO 15 (.call F_spec_l1In [.t 11, .c (.int .i64 0), .t 14]), gO 16 (.not (.t 15))]
def q306r10 := [gO 9 (.lda 3 (.t 2)), gO 10 (.call F_spec_SlotsOf [.t 9]), gO 5 (.asg true (.t 10))]
def q306r11 := [gO 2 (.box (.t 0)), gO 4 (.asg false (xI 0))]
def q306 : CC := .seq (.reg none q306r11 [1, 2]) (.seq (.reg none q306r10 [1, 2, 5]) (.seq (.seq (.reg none q306r9 [1, 2, 5, 16]) (.cnd (.t 16) (.seq (.reg none q306r8 [4]) (.ret)) (.skip))) (.seq (.reg (some (7, [[], [], [], [1, 2], [1, 2, 3], [0, 1, 2, 3, 4], [0, 1, 2, 3, 4, 5]])) q306r7 [2, 6]) (.seq (.reg none q306r6 [2, 6, 7]) (.seq (.seq (.reg none q306r5 [2, 6, 7, 8]) (.blk 0 (.loop q306b0 [2, 6, 7, 8]))) (.seq (.reg none q306r0 [4]) (.ret)))))))
abbrev L_spec_UncheckedIn_0 (P : Program) (E : Env) (r : List RV) : Prop := Run P [.tmp 4] (.code q306b0 :: .lp q306b0 [2, 6, 7, 8] :: [.blk 0, .code (.seq (.reg none q306r0 [4]) (.ret))]) E r
theorem k306 : chkF PP Tryz.f306 q306 [.tmp 4] = true := by kernel_rfl
theorem S_spec_UncheckedIn : SOf PP Tryz.f306 39 [.tmp 4] q306 F_spec_UncheckedIn := fun hs hn h => callsOK Tryz.func306 k306 hs hn h

def q307r0 := [gO 5 (.lda 3 (.t 2)), gO 6 (.call F_spec_IsGrid [.t 5]), gV 7 6, gY 8 7 (.mv (.t 1)), gY 9 7 (.fld (.t 2) 2), gY 10 7 (.ld (.t 9)), gY 11 7 (.slen (.t 10)), gY 12 7 (.bin .sub (.t 11) (xI 1)), gY 13 7 (.call F_spec_l1In [.t 8, .c (.int .i64 0), .t 12]), gO 14 (.pick (.t 7) (.t 13) (.c (.bool false))), gV 15 14, gY 16 15 (.fld (.t 2) 2), gY 17 15 (.ld (.t 16)), gY 18 15 (.mv (.t 1)), gY 19 15 (.sidx (.t 17) (.t 18)), gY 20 15 (.bin .eql (.t 19) (.c (.int .u8 46))), gO 21 (.pick (.t 15) (.t 20) (.c (.bool false))), gO 4 (.asg true (.t 21))]
def q307r1 := [gO 2 (.box (.t 0)), gO 4 (.asg false (.c (.bool false)))]
def q307 : CC := .seq (.reg none q307r1 [1, 2]) (.seq (.reg none q307r0 [4]) (.ret))
theorem k307 : chkF PP Tryz.f307 q307 [.tmp 4] = true := by kernel_rfl
theorem S_spec_IsWhite : SOf PP Tryz.f307 22 [.tmp 4] q307 F_spec_IsWhite := fun hs hn h => callsOK Tryz.func307 k307 hs hn h

def q308r0 := [gO 11 (.lda 3 (.t 1)), gS (.sto 3 (.t 2) (.t 11))]
def q308r1 := [gO 7 (.fld (.t 1) 2), gO 8 (.ld (.t 7)), gO 9 (.call F_impl_Backwards [.t 8]), gO 10 (.fld (.t 1) 2), gS (.sto 1 (.t 10) (.t 9))]
def q308r2 := [gO 6 (.bld [.int .i64 0, .int .i64 0, .str []] []), gS (.sto 3 (.t 2) (.t 6))]
def q308r3 := [gO 3 (.lda 3 (.t 1)), gO 4 (.call F_impl_IsGrid [.t 3]), gO 5 (.not (.t 4))]
def q308r4 := [gO 1 (.box (.t 0)), gO 2 (.alc [.int .i64 0, .int .i64 0, .str []])]
def q308 : CC := .seq (.reg none q308r4 [1, 2]) (.seq (.seq (.reg none q308r3 [1, 2, 5]) (.cnd (.t 5) (.seq (.reg none q308r2 [2]) (.ret)) (.skip))) (.seq (.reg none q308r1 [1, 2]) (.seq (.reg none q308r0 [2]) (.ret))))
theorem k308 : chkF PP Tryz.f308 q308 [.cella 2] = true := by kernel_rfl
theorem S_impl_TurnGrid : SOf PP Tryz.f308 12 [.cella 2] q308 F_impl_TurnGrid := fun hs hn h => callsOK Tryz.func308 k308 hs hn h

def q309r0 := [gV 46 5, gO 2 (.asg true (.t 46))]
def q309r1 := [gO 45 (.bin .add (.t 18) (xI 1)), gV 18 45]
def q309r2 := [gO 35 (.ld (.t 4)), gV 36 6, gO 37 (.fld (.t 1) 1), gO 38 (.ld (.t 37)), gO 39 (.bin .quo (.t 36) (.t 38)), gV 40 6, gO 41 (.fld (.t 1) 1), gO 42 (.ld (.t 41)), gO 43 (.bin .rem (.t 40) (.t 42)), gO 44 (.callv (.t 35) [.t 39, .t 43])]
def q309r3 := [gV 33 5, gO 34 (.bin .add (.t 33) (xI 1)), gO 5 (.asg true (.t 34))]
def q309r4 := [gO 21 (.fld (.t 1) 2), gO 22 (.ld (.t 21)), gV 23 6, gO 24 (.sidx (.t 22) (.t 23)), gO 25 (.bin .eql (.t 24) (.c (.int .u8 46))), gV 26 25, gY 27 26 (.ld (.t 3)), gY 28 26 (.mv (.t 6)), gY 29 26 (.idx 1 (.t 27) (.t 28)), gY 30 26 (.ld (.t 29)), gY 31 26 (.not (.t 30)), gO 32 (.pick (.t 26) (.t 31) (.c (.bool false)))]
def q309r5 := [gV 20 18, gO 6 (.asg true (.t 20))]
def q309r6 := [gO 19 (.bin .lss (.t 18) (.t 17))]
def q309b0 : CC := .seq (.reg none q309r6 (nL [1, 3, 4, 5, 17, 18, 19])) (.seq (.cnd (.t 19) (.skip) (.exit 0)) (.seq (.blk 1 (.seq (.reg none q309r5 (nL [1, 3, 4, 5, 6, 17, 18])) (.seq (.reg none q309r4 (nL [1, 3, 4, 5, 6, 17, 18, 32])) (.cnd (.t 32) (.seq (.reg none q309r3 (nL [1, 3, 4, 5, 6, 17, 18])) (.any [[], [], [], [2], [1, 2, 3], [], [], [6], [5, 6, 7], [0, 1, 2, 3, 4, 5, 6, 7, 8]] q309r2 (nL [1, 3, 4, 5, 17, 18]))) (.skip))))) (.reg none q309r1 (nL [1, 3, 4, 5, 17, 18]))))
def q309r7 := [gO 15 (.fld (.t 1) 2), gO 16 (.ld (.t 15)), gO 17 (.slen (.t 16)), gO 18 (.mv (xI 0))]
def q309r8 := [gO 5 (.asg false (xI 0))]
def q309r9 := [gO 14 (.mkf F_impl_PartsOf_1 [.t 1, .t 3, .t 4]), gS (.sto 1 (.t 4) (.t 14))]
def q309r10 := [gO 4 (.alc [.val .nilFunc])]
def q309r11 := [gO 10 (.fld (.t 1) 2), gO 11 (.ld (.t 10)), gO 12 (.slen (.t 11)), gO 13 (.mks T_bool 1 1 [.bool false] (.t 12)), gO 3 (.alc [.sl 1 []]), gS (.sto 1 (.t 3) (.t 13))]
def q309r12 := [gO 2 (.asg false (xI 0))]
def q309r13 := [gO 7 (.lda 3 (.t 1)), gO 8 (.call F_impl_IsGrid [.t 7]), gO 9 (.not (.t 8))]
def q309r14 := [gO 1 (.box (.t 0)), gO 2 (.asg false (xI 0))]
def q309 : CC := .seq (.reg none q309r14 (nL [1])) (.seq (.seq (.reg none q309r13 (nL [1, 9])) (.cnd (.t 9) (.seq (.reg none q309r12 (nL [2])) (.ret)) (.skip))) (.seq (.reg none q309r11 (nL [1, 3])) (.seq (.reg none q309r10 (nL [1, 3, 4])) (.seq (.reg none q309r9 (nL [1, 3, 4])) (.seq (.reg none q309r8 (nL [1, 3, 4, 5])) (.seq (.seq (.reg none q309r7 (nL [1, 3, 4, 5, 17, 18])) (.blk 0 (.loop q309b0 (nL [1, 3, 4, 5, 17, 18])))) (.seq (.reg none q309r0 (nL [2])) (.ret))))))))
abbrev L_impl_PartsOf_0 (P : Program) (Q : Env → Prop) (E : Env) : Prop := RunQ P Q (.code q309b0 :: .lp q309b0 (nL [1, 3, 4, 5, 17, 18]) :: [.blk 0, .code (.seq (.reg none q309r0 (nL [2])) (.ret))]) E
theorem k309 : chkF PP Tryz.f309 q309 [.tmp 2] = true := by kernel_rfl
theorem SQ_impl_PartsOf : SQOf PP Tryz.f309 47 [.tmp 2] q309 F_impl_PartsOf := fun ni no hs hn hni hno h => callsH_of_run ni no Tryz.func309 k309 hs hn hni hno (fun u => h u _ (fun _ h => h))

def q310r0 := [gO 5 (.lda 3 (.t 2)), gV 6 1, gO 7 (.call F_impl_SlotsAt [.t 5, .t 6]), gO 8 (.len (.t 7)), gO 9 (.bin .eql (.t 8) (xI 2)), gO 4 (.asg true (.t 9))]
def q310r1 := [gO 2 (.box (.t 0)), gO 4 (.asg false (.c (.bool false)))]
def q310 : CC := .seq (.reg none q310r1 [1, 2]) (.seq (.reg none q310r0 [4]) (.ret))
theorem k310 : chkF PP Tryz.f310 q310 [.tmp 4] = true := by kernel_rfl
theorem S_impl_IsChecked : SOf PP Tryz.f310 10 [.tmp 4] q310 F_impl_IsChecked := fun hs hn h => callsOK Tryz.func310 k310 hs hn h

def q314r0 := [gV 23 3, gO 2 (.asg true (.t 23))]
def q314r1 := [gV 14 4, gO 15 (.bin .add (.t 14) (xI 1)), gO 4 (.asg true (.t 15))]
def q314r2 := [gV 16 0, gV 17 4, gV 18 4, gO 19 (.bin .add (.t 18) (xI 1)), gO 20 (.ssub (.t 16) (some (.t 17)) (some (.t 19))), gV 21 3, gO 22 (.bin .add (.t 20) (.t 21)), gO 3 (.asg true (.t 22))]
def q314r3 := [gV 5 4, gV 6 0, gO 7 (.slen (.t 6)), gO 8 (.bin .lss (.t 5) (.t 7)), gV 9 8, gY 10 9 (.mv (.t 0)), gY 11 9 (.slen (.t 10)), gY 12 9 (.bin .leq (.t 11) (xI 100)), gO 13 (.pick (.t 9) (.t 12) (.c (.bool false)))]
def q314b0 : CC := .seq (.seq (.reg none q314r3 [0, 3, 4, 13]) (.cnd (.t 13) (.skip) (.exit 0))) (.seq (.blk 1 (.reg none q314r2 [0, 3, 4])) (.reg none q314r1 [0, 3, 4]))
def q314r4 := [gO 4 (.asg false (xI 0))]
def q314r5 := [gO 3 (.asg false (.c (.str [])))]
def q314r6 := [gO 2 (.asg false (.c (.str [])))]
def q314 : CC := .seq (.reg none q314r6 [0]) (.seq (.reg none q314r5 [0, 3]) (.seq (.seq (.reg none q314r4 [0, 3, 4]) (.blk 0 (.loop q314b0 [0, 3, 4]))) (.seq (.reg none q314r0 [2]) (.ret))))
abbrev L_spec_Backwards_0 (P : Program) (E : Env) (r : List RV) : Prop := Run P [.tmp 2] (.code q314b0 :: .lp q314b0 [0, 3, 4] :: [.blk 0, .code (.seq (.reg none q314r0 [2]) (.ret))]) E r
theorem k314 : chkF PP Tryz.f314 q314 [.tmp 2] = true := by kernel_rfl
theorem S_spec_Backwards : SOf PP Tryz.f314 24 [.tmp 2] q314 F_spec_Backwards := fun hs hn h => callsOK Tryz.func314 k314 hs hn h

def q323r0 := [gV 11 3, gO 12 (.b2s (.t 11)), gO 2 (.asg true (.t 12))]
def q323r1 := [gV 9 3, gO 10 (.call F_slices_Reverse_byte [.t 9])]
def q323r2 := [gV 7 0, gO 8 (.s2b T_uint8 (.t 7)), gO 3 (.asg true (.t 8))]
def q323r3 := [gO 2 (.asg false (.c (.str [])))]
def q323r4 := [gV 4 0, gO 5 (.slen (.t 4)), gO 6 (.bin .gtr (.t 5) (xI 100))]
def q323r5 := [gO 2 (.asg false (.c (.str [])))]
def q323 : CC := .seq (.reg none q323r5 (nL [0])) (.seq (.seq (.reg none q323r4 (nL [0, 6])) (.cnd (.t 6) (.seq (.reg none q323r3 (nL [2])) (.ret)) (.skip))) (.seq (.reg none q323r2 (nL [3])) (.seq (.reg none q323r1 (nL [3])) (.seq (.reg none q323r0 (nL [2])) (.ret)))))
theorem k323 : chkF PP Tryz.f323 q323 [.tmp 2] = true := by kernel_rfl
theorem SQ_impl_Backwards : SQOf PP Tryz.f323 13 [.tmp 2] q323 F_impl_Backwards := fun ni no hs hn hni hno h => callsH_of_run ni no Tryz.func323 k323 hs hn hni hno (fun u => h u _ (fun _ h => h))

def q338r0 := [gO 4 (.asg false (.c (.bool false)))]
def q338r1 := [gV 10 5, gO 11 (.bin .add (.t 10) (xI 1)), gO 5 (.asg true (.t 11))]
def q338r2 := [gO 4 (.asg false (.c (.bool true)))]
def q338r3 := [gV 12 0, gV 13 5, gO 14 (.idx 1 (.t 12) (.t 13)), gO 15 (.ld (.t 14)), gV 16 1, gO 17 (.bin .eql (.t 15) (.t 16))]
def q338r4 := [gV 6 5, gV 7 0, gO 8 (.len (.t 7)), gO 9 (.bin .lss (.t 6) (.t 8))]
def q338b0 : CC := .seq (.seq (.reg none q338r4 [0, 1, 5, 9]) (.cnd (.t 9) (.skip) (.exit 0))) (.seq (.blk 1 (.seq (.reg none q338r3 [0, 1, 5, 17]) (.cnd (.t 17) (.seq (.reg none q338r2 [4]) (.ret)) (.skip)))) (.reg none q338r1 [0, 1, 5]))
def q338r5 := [gO 5 (.asg false (xI 0))]
def q338r6 := [gO 4 (.asg false (.c (.bool false)))]
def q338 : CC := .seq (.reg none q338r6 [0, 1]) (.seq (.seq (.reg none q338r5 [0, 1, 5]) (.blk 0 (.loop q338b0 [0, 1, 5]))) (.seq (.reg none q338r0 [4]) (.ret)))
abbrev L_spec_l8Has_0 (P : Program) (E : Env) (r : List RV) : Prop := Run P [.tmp 4] (.code q338b0 :: .lp q338b0 [0, 1, 5] :: [.blk 0, .code (.seq (.reg none q338r0 [4]) (.ret))]) E r
theorem k338 : chkF PP Tryz.f338 q338 [.tmp 4] = true := by kernel_rfl
theorem S_spec_l8Has : SOf PP Tryz.f338 18 [.tmp 4] q338 F_spec_l8Has := fun hs hn h => callsOK Tryz.func338 k338 hs hn h

def q340r0 := [gV 96 1, gO 6 (.asg true (.t 96))]
def q340r1 := [gV 19 8, gO 20 (.bin .add (.t 19) (xI 1)), gO 8 (.asg true (.t 20))]
def q340r2 := [gO 7 (.asg false (.c (.bool true)))]
def q340r3 := [gV 93 1, gV 94 8, gO 95 (.idx 1 (.t 93) (.t 94)), gS (.sto 1 (.t 95) (.c (.bool true)))]
def q340r4 := [gV 92 10]
def q340r5 := [gV 36 9, gO 37 (.bin .gtr (.t 36) (xI 0)), gV 38 37, gY 39 38 (.mv (.t 1)), gY 40 38 (.mv (.t 8)), gY 41 38 (.bin .sub (.t 40) (xI 1)), gY 42 38 (.idx 1 (.t 39) (.t 41)), gY 43 38 (.ld (.t 42)), gO 44 (.pick (.t 38) (.t 43) (.c (.bool false))), gV 45 44, gN 46 45 (.mv (.t 9)), gN 47 45 (.bin .add (.t 46) (xI 1)), gN 48 45 (.fld (.t 3) 1), gN 49 45 (.ld (.t 48)), gN 50 45 (.bin .lss (.t 47) (.t 49)), gN 51 45 (.mv (.t 50)), gY 52 51 (.mv (.t 1)), gY 53 51 (.mv (.t 8)), gY 54 51 (.bin .add (.t 53) (xI 1)), gY 55 51 (.idx 1 (.t 52) (.t 54)), gY 56 51 (.ld (.t 55)), gN 57 45 (.pick (.t 51) (.t 56) (.c (.bool false))), gO 58 (.pick (.t 45) (.c (.bool true)) (.t 57)), gV 59 58, gN 60 59 (.mv (.t 8)), gN 61 59 (.fld (.t 3) 1), gN 62 59 (.ld (.t 61)), gN 63 59 (.bin .geq (.t 60) (.t 62)), gN 64 59 (.mv (.t 63)), gY 65 64 (.mv (.t 1)), gY 66 64 (.mv (.t 8)), gY 67 64 (.fld (.t 3) 1), gY 68 64 (.ld (.t 67)), gY 69 64 (.bin .sub (.t 66) (.t 68)), gY 70 64 (.idx 1 (.t 65) (.t 69)), gY 71 64 (.ld (.t 70)), gN 72 59 (.pick (.t 64) (.t 71) (.c (.bool false))), gO 73 (.pick (.t 59) (.c (.bool true)) (.t 72)), gV 74 73, gN 75 74 (.mv (.t 8)), gN 76 74 (.fld (.t 3) 1), gN 77 74 (.ld (.t 76)), gN 78 74 (.bin .add (.t 75) (.t 77)), gN 79 74 (.mv (.t 1)), gN 80 74 (.len (.t 79)), gN 81 74 (.bin .lss (.t 78) (.t 80)), gN 82 74 (.mv (.t 81)), gY 83 82 (.mv (.t 1)), gY 84 82 (.mv (.t 8)), gY 85 82 (.fld (.t 3) 1), gY 86 82 (.ld (.t 85)), gY 87 82 (.bin .add (.t 84) (.t 86)), gY 88 82 (.idx 1 (.t 83) (.t 87)), gY 89 82 (.ld (.t 88)), gN 90 74 (.pick (.t 82) (.t 89) (.c (.bool false))), gO 91 (.pick (.t 74) (.c (.bool true)) (.t 90)), gO 10 (.asg true (.t 91))]
def q340r6 := [gV 32 8, gO 33 (.fld (.t 3) 1), gO 34 (.ld (.t 33)), gO 35 (.bin .rem (.t 32) (.t 34)), gO 9 (.asg true (.t 35))]
def q340r7 := [gV 21 1, gV 22 8, gO 23 (.idx 1 (.t 21) (.t 22)), gO 24 (.ld (.t 23)), gV 25 24, gN 26 25 (.fld (.t 3) 2), gN 27 25 (.ld (.t 26)), gN 28 25 (.mv (.t 8)), gN 29 25 (.sidx (.t 27) (.t 28)), gN 30 25 (.bin .neq (.t 29) (.c (.int .u8 46))), gO 31 (.pick (.t 25) (.c (.bool true)) (.t 30))]
def q340r8 := [gV 15 8, gV 16 1, gO 17 (.len (.t 16)), gO 18 (.bin .lss (.t 15) (.t 17))]
def q340b1 : CC := .seq (.seq (.reg none q340r8 [1, 3, 7, 8, 18, 1000]) (.cnd (.t 18) (.skip) (.exit 2))) (.seq (.blk 3 (.seq (.seq (.reg none q340r7 [1, 3, 7, 8, 31, 1000]) (.cnd (.t 31) (.exit 3) (.skip))) (.seq (.reg none q340r6 [1, 3, 7, 8, 9, 1000]) (.seq (.reg none q340r5 [1, 3, 7, 8, 10, 1000]) (.seq (.reg none q340r4 [1, 3, 7, 8, 92, 1000]) (.cnd (.t 92) (.seq (.reg none q340r3 [1, 3, 8, 1000]) (.reg none q340r2 [1, 3, 7, 8, 1000])) (.skip))))))) (.reg none q340r1 [1, 3, 7, 8, 1000]))
def q340r9 := [gO 8 (.asg false (xI 0))]
def q340r10 := [gO 7 (.asg false (.c (.bool false)))]
def q340r11 := [gV 14 7]
def q340b0 : CC := .seq (.seq (.reg none q340r11 [1, 3, 14, 1000]) (.cnd (.t 14) (.skip) (.exit 0))) (.blk 1 (.seq (.reg none q340r10 [1, 3, 7, 1000]) (.seq (.reg none q340r9 [1, 3, 7, 8, 1000]) (.blk 2 (.loop q340b1 [1, 3, 7, 8, 1000])))))
def q340r12 := [gO 7 (.asg false (.c (.bool true)))]
def q340r13 := [gV 11 1, gV 12 2, gO 13 (.idx 1 (.t 11) (.t 12)), gS (.sto 1 (.t 13) (.c (.bool true)))]
def q340r14 := [gO 3 (.box (.t 0)), gO 6 (.nilo T_bool 1 1)]
def q340 : CC := .seq (.reg none q340r14 [1, 2, 3, 1000]) (.seq (.reg none q340r13 [1, 3, 1000]) (.seq (.seq (.reg none q340r12 [1, 3, 7, 1000]) (.blk 0 (.loop q340b0 [1, 3, 7, 1000]))) (.seq (.reg none q340r0 [6, 1000]) (.ret))))
abbrev L_spec_l10Reach_1 (P : Program) (Q : Env → Prop) (E : Env) : Prop := RunQ P Q (.code q340b1 :: .lp q340b1 [1, 3, 7, 8, 1000] :: [.blk 2, .blk 1, .lp q340b0 [1, 3, 7, 1000], .blk 0, .code (.seq (.reg none q340r0 [6, 1000]) (.ret))]) E
abbrev L_spec_l10Reach_0 (P : Program) (Q : Env → Prop) (E : Env) : Prop := RunQ P Q (.code q340b0 :: .lp q340b0 [1, 3, 7, 1000] :: [.blk 0, .code (.seq (.reg none q340r0 [6, 1000]) (.ret))]) E
theorem k340 : chkF PP Tryz.f340 q340 [.tmp 6] = true := by kernel_rfl
theorem SL_spec_l10Reach {args : Value → List AV} {res : Value → List RV} {e sz bys : Nat} {es es' : List (List DV)} (hs : ∀ v, sizeXs PP Tryz.f340.results.toList (res v) = true) (hn : ∀ v, (args v).length ≤ 97 ∧ (args v).length ≤ 1000) (h : ∀ v bs, RunQ PP (fun E => resP E [.tmp 6] = some (res v) ∧ ∃ bs', get E 1000 = .heap false v bs' e sz bys es') [.code q340] ((1000, .heap false v bs e sz bys es) :: argEnv (args v) 0)) : CallsL PP F_spec_l10Reach e sz bys es es' args res := callsL_of_run Tryz.func340 k340 hs hn h

def q341r0 := [gO 5 (.lda 3 (.t 2)), gV 6 1, gO 7 (.call F_spec_SlotsAt [.t 5, .t 6]), gO 8 (.len (.t 7)), gO 9 (.bin .eql (.t 8) (xI 2)), gO 4 (.asg true (.t 9))]
def q341r1 := [gO 2 (.box (.t 0)), gO 4 (.asg false (.c (.bool false)))]
def q341 : CC := .seq (.reg none q341r1 [1, 2]) (.seq (.reg none q341r0 [4]) (.ret))
theorem k341 : chkF PP Tryz.f341 q341 [.tmp 4] = true := by kernel_rfl
theorem S_spec_IsChecked : SOf PP Tryz.f341 10 [.tmp 4] q341 F_spec_IsChecked := fun hs hn h => callsOK Tryz.func341 k341 hs hn h

def q342r0 := [gO 65 (.ld (.t 4)), gV 66 0, gV 67 1, gO 68 (.bin .add (.t 67) (xI 1)), gO 69 (.callv (.t 65) [.t 66, .t 68])]
def q342r1 := [gO 60 (.ld (.t 4)), gV 61 0, gV 62 1, gO 63 (.bin .sub (.t 62) (xI 1)), gO 64 (.callv (.t 60) [.t 61, .t 63])]
def q342r2 := [gO 55 (.ld (.t 4)), gV 56 0, gO 57 (.bin .add (.t 56) (xI 1)), gV 58 1, gO 59 (.callv (.t 55) [.t 57, .t 58])]
def q342r3 := [gO 50 (.ld (.t 4)), gV 51 0, gO 52 (.bin .sub (.t 51) (xI 1)), gV 53 1, gO 54 (.callv (.t 50) [.t 52, .t 53])]
def q342r4 := [gO 42 (.ld (.t 3)), gV 43 0, gO 44 (.fld (.t 2) 1), gO 45 (.ld (.t 44)), gO 46 (.bin .mul (.t 43) (.t 45)), gV 47 1, gO 48 (.bin .add (.t 46) (.t 47)), gO 49 (.idx 1 (.t 42) (.t 48)), gS (.sto 1 (.t 49) (.c (.bool true)))]
def q342r5 := [gV 7 0, gO 8 (.fld (.t 2) 0), gO 9 (.ld (.t 8)), gO 10 (.call F_impl_at [.t 7, .t 9]), gO 11 (.not (.t 10)), gV 12 11, gN 13 12 (.mv (.t 1)), gN 14 12 (.fld (.t 2) 1), gN 15 12 (.ld (.t 14)), gN 16 12 (.call F_impl_at [.t 13, .t 15]), gN 17 12 (.not (.t 16)), gO 18 (.pick (.t 12) (.c (.bool true)) (.t 17)), gV 19 18, gN 20 19 (.ld (.t 3)), gN 21 19 (.mv (.t 0)), gN 22 19 (.fld (.t 2) 1), gN 23 19 (.ld (.t 22)), gN 24 19 (.bin .mul (.t 21) (.t 23)), gN 25 19 (.mv (.t 1)), gN 26 19 (.bin .add (.t 24) (.t 25)), gN 27 19 (.idx 1 (.t 20) (.t 26)), gN 28 19 (.ld (.t 27)), gO 29 (.pick (.t 19) (.c (.bool true)) (.t 28)), gV 30 29, gN 31 30 (.fld (.t 2) 2), gN 32 30 (.ld (.t 31)), gN 33 30 (.mv (.t 0)), gN 34 30 (.fld (.t 2) 1), gN 35 30 (.ld (.t 34)), gN 36 30 (.bin .mul (.t 33) (.t 35)), gN 37 30 (.mv (.t 1)), gN 38 30 (.bin .add (.t 36) (.t 37)), gN 39 30 (.sidx (.t 32) (.t 38)), gN 40 30 (.bin .neq (.t 39) (.c (.int .u8 46))), gO 41 (.pick (.t 30) (.c (.bool true)) (.t 40))]
def q342 : CC := .seq (.seq (.reg none q342r5 (nL [0, 1, 2, 3, 4, 41])) (.cnd (.t 41) (.ret) (.skip))) (.seq (.reg none q342r4 (nL [0, 1, 4])) (.seq (.reg none q342r3 (nL [0, 1, 4])) (.seq (.reg none q342r2 (nL [0, 1, 4])) (.seq (.reg none q342r1 (nL [0, 1, 4])) (.reg none q342r0 (nL []))))))
theorem k342 : chkF PP Tryz.f342 q342 [] = true := by kernel_rfl
theorem SP_impl_PartsOf_1 {args : List AV} {res : List RV} {hin : List (Nat × Obj)} {hout : List Obj} (ns : List Nat) (hs : sizeXs PP Tryz.f342.results.toList res = true) (hn : args.length ≤ 70 ∧ ∀ n ∈ ns, args.length ≤ n) (hns : ns.Nodup) (hln : hout.length = hin.length) (hnl : ns.length = hin.length) (h : ∀ Q : Env → Prop, (∀ E, resP E [] = some res ∧ GetP E ns ((hin.map (·.1)).zip hout) → Q E) → RunQ PP Q [.code q342] (envP ns (hin.map (·.1)) (hin.map (·.2)) ++ argEnv args 0)) : CallsP PP F_impl_PartsOf_1 args hin hout res := callsP_of_run ns Tryz.func342 k342 hs hn hns hln hnl (h _ (fun _ h => h))

def q343r0 := [gV 24 5, gO 4 (.asg true (.t 24))]
def q343r1 := [gO 23 (.bin .add (.t 11) (xI 1)), gV 11 23]
def q343r2 := [gV 19 5, gV 20 6, gO 21 (.bsl 1 [.t 20]), gO 22 (.app T_int 1 8 (.t 19) (.t 21)), gO 5 (.asg true (.t 22))]
def q343r3 := [gV 16 7, gV 17 1, gO 18 (.call F_slices_Contains_int [.t 16, .t 17])]
def q343r4 := [gV 13 11, gO 14 (.idx 1 (.t 9) (.t 11)), gO 15 (.ld (.t 14)), gO 6 (.asg true (.t 13)), gO 7 (.asg true (.t 15))]
def q343r5 := [gO 12 (.bin .lss (.t 11) (.t 10))]
def q343b0 : CC := .seq (.reg none q343r5 [1, 5, 9, 10, 11, 12]) (.seq (.cnd (.t 12) (.skip) (.exit 0)) (.seq (.blk 1 (.seq (.reg none q343r4 [1, 5, 6, 7, 9, 10, 11]) (.seq (.reg none q343r3 [1, 5, 6, 9, 10, 11, 18]) (.cnd (.t 18) (.reg none q343r2 [1, 5, 9, 10, 11]) (.skip))))) (.reg none q343r1 [1, 5, 9, 10, 11])))
def q343r6 := [gO 8 (.lda 3 (.t 2)), gO 9 (.call F_impl_layout [.t 8]), gO 10 (.len (.t 9)), gO 11 (.mv (xI 0))]
def q343r7 := [gO 5 (.nilo T_int 1 8)]
def q343r8 := [gO 2 (.box (.t 0)), gO 4 (.nilo T_int 1 8)]
def q343 : CC := .seq (.reg none q343r8 [1, 2]) (.seq (.reg none q343r7 [1, 2, 5]) (.seq (.seq (.reg none q343r6 [1, 5, 9, 10, 11]) (.blk 0 (.loop q343b0 [1, 5, 9, 10, 11]))) (.seq (.reg none q343r0 [4]) (.ret))))
abbrev L_impl_SlotsAt_0 (P : Program) (E : Env) (r : List RV) : Prop := Run P [.tmp 4] (.code q343b0 :: .lp q343b0 [1, 5, 9, 10, 11] :: [.blk 0, .code (.seq (.reg none q343r0 [4]) (.ret))]) E r
theorem k343 : chkF PP Tryz.f343 q343 [.tmp 4] = true := by kernel_rfl
theorem S_impl_SlotsAt : SOf PP Tryz.f343 25 [.tmp 4] q343 F_impl_SlotsAt := fun hs hn h => callsOK Tryz.func343 k343 hs hn h

def q347r0 := [gV 10 2, gO 11 (.bin .add (.t 10) (xI 1)), gV 12 3, gO 13 (.bin .sub (.t 12) (xI 1)), gO 2 (.asg true (.t 11)), gO 3 (.asg true (.t 13))]
def q347r1 := [gV 14 0, gV 15 2, gV 16 0, gV 17 3, gV 18 0, gV 19 3, gO 20 (.idx 1 (.t 18) (.t 19)), gO 21 (.ld (.t 20)), gV 22 0, gV 23 2, gO 24 (.idx 1 (.t 22) (.t 23)), gO 25 (.ld (.t 24)), gO 26 (.idx 1 (.t 14) (.t 15)), gS (.sto 1 (.t 26) (.t 21)), gO 27 (.idx 1 (.t 16) (.t 17)), gS (.sto 1 (.t 27) (.t 25))]
def q347r2 := [gV 7 2, gV 8 3, gO 9 (.bin .lss (.t 7) (.t 8))]
def q347b0 : CC := .seq (.seq (.reg none q347r2 (nL [0, 2, 3, 9])) (.cnd (.t 9) (.skip) (.exit 0))) (.seq (.blk 1 (.any [[], [], [], [], [], [], [4, 5], [4, 5, 6], [], [], [8, 9], [8, 9, 10], [0, 1, 4, 5, 6, 7, 8, 9, 10, 11], [0, 1, 4, 5, 6, 7, 8, 9, 10, 11, 12], [0, 1, 2, 3, 4, 5, 6, 7, 8, 9, 10, 11, 12, 13], [0, 1, 2, 3, 4, 5, 6, 7, 8, 9, 10, 11, 12, 13, 14]] q347r1 (nL [0, 2, 3]))) (.reg none q347r0 (nL [0, 2, 3])))
def q347r3 := [gV 4 0, gO 5 (.len (.t 4)), gO 6 (.bin .sub (.t 5) (xI 1)), gO 2 (.asg false (xI 0)), gO 3 (.asg true (.t 6))]
def q347 : CC := .seq (.reg none q347r3 (nL [0, 2, 3])) (.blk 0 (.loop q347b0 (nL [0, 2, 3])))
abbrev L_slices_Reverse_byte_0 (P : Program) (Q : Env → Prop) (E : Env) : Prop := RunQ P Q (.code q347b0 :: .lp q347b0 (nL [0, 2, 3]) :: [.blk 0]) E
theorem k347 : chkF PP Tryz.f347 q347 [] = true := by kernel_rfl
theorem SP_slices_Reverse_byte {args : List AV} {res : List RV} {hin : List (Nat × Obj)} {hout : List Obj} (ns : List Nat) (hs : sizeXs PP Tryz.f347.results.toList res = true) (hn : args.length ≤ 28 ∧ ∀ n ∈ ns, args.length ≤ n) (hns : ns.Nodup) (hln : hout.length = hin.length) (hnl : ns.length = hin.length) (h : ∀ Q : Env → Prop, (∀ E, resP E [] = some res ∧ GetP E ns ((hin.map (·.1)).zip hout) → Q E) → RunQ PP Q [.code q347] (envP ns (hin.map (·.1)) (hin.map (·.2)) ++ argEnv args 0)) : CallsP PP F_slices_Reverse_byte args hin hout res := callsP_of_run ns Tryz.func347 k347 hs hn hns hln hnl (h _ (fun _ h => h))

def q353r0 := [gV 5 0, gV 6 1, gO 7 (.call F_slices_Index_int [.t 5, .t 6]), gO 8 (.bin .geq (.t 7) (xI 0)), gO 4 (.asg true (.t 8))]
def q353r1 := [gO 4 (.asg false (.c (.bool false)))]
def q353 : CC := .seq (.reg none q353r1 [0, 1]) (.seq (.reg none q353r0 [4]) (.ret))
theorem k353 : chkF PP Tryz.f353 q353 [.tmp 4] = true := by kernel_rfl
theorem S_slices_Contains_int : SOf PP Tryz.f353 9 [.tmp 4] q353 F_slices_Contains_int := fun hs hn h => callsOK Tryz.func353 k353 hs hn h

def q355r0 := [gO 4 (.asg false (.c (.int .i64 (-1))))]
def q355r1 := [gO 18 (.bin .add (.t 8) (xI 1)), gV 8 18]
def q355r2 := [gV 17 5, gO 4 (.asg true (.t 17))]
def q355r3 := [gV 11 1, gV 12 0, gV 13 5, gO 14 (.idx 1 (.t 12) (.t 13)), gO 15 (.ld (.t 14)), gO 16 (.bin .eql (.t 11) (.t 15))]
def q355r4 := [gV 10 8, gO 5 (.asg true (.t 10))]
def q355r5 := [gO 9 (.bin .lss (.t 8) (.t 7))]
def q355b0 : CC := .seq (.reg none q355r5 [0, 1, 7, 8, 9]) (.seq (.cnd (.t 9) (.skip) (.exit 0)) (.seq (.blk 1 (.seq (.reg none q355r4 [0, 1, 5, 7, 8]) (.seq (.reg none q355r3 [0, 1, 5, 7, 8, 16]) (.cnd (.t 16) (.seq (.reg none q355r2 [4]) (.ret)) (.skip))))) (.reg none q355r1 [0, 1, 7, 8])))
def q355r6 := [gV 6 0, gO 7 (.len (.t 6)), gO 8 (.mv (xI 0))]
def q355r7 := [gO 4 (.asg false (xI 0))]
def q355 : CC := .seq (.reg none q355r7 [0, 1]) (.seq (.seq (.reg none q355r6 [0, 1, 7, 8]) (.blk 0 (.loop q355b0 [0, 1, 7, 8]))) (.seq (.reg none q355r0 [4]) (.ret)))
abbrev L_slices_Index_int_0 (P : Program) (E : Env) (r : List RV) : Prop := Run P [.tmp 4] (.code q355b0 :: .lp q355b0 [0, 1, 7, 8] :: [.blk 0, .code (.seq (.reg none q355r0 [4]) (.ret))]) E r
theorem k355 : chkF PP Tryz.f355 q355 [.tmp 4] = true := by kernel_rfl
theorem S_slices_Index_int : SOf PP Tryz.f355 19 [.tmp 4] q355 F_slices_Index_int := fun hs hn h => callsOK Tryz.func355 k355 hs hn h

end Go.Rd
