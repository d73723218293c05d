import Derived.Test.YtkdgipcfodmceaaGreatNames
/- The texts of the functions, each checked against the program. No condition. -/
set_option maxRecDepth 100000
namespace Go.Rd
open Go.Proofs
-- loop.example/g03003/impl.IsDictionary
def c_impl_IsDictionary_r0 : List GOp := [⟨some 2, none, .asg false (.c (.bool true))⟩]
def c_impl_IsDictionary_r1 : List GOp := [⟨some 39, none, .bin .add (.t 10) (.c (.int .i64 1))⟩,
  ⟨some 10, none, .mv (.t 39)⟩]
def c_impl_IsDictionary_r2 : List GOp := [⟨some 2, none, .asg false (.c (.bool false))⟩]
def c_impl_IsDictionary_r3 : List GOp := [⟨some 15, none, .mv (.t 3)⟩,
  ⟨some 16, none, .bin .gtr (.t 15) (.c (.int .i64 0))⟩,
  ⟨some 17, none, .mv (.t 16)⟩,
  ⟨some 18, some (17, true), .mv (.t 0)⟩,
  ⟨some 19, some (17, true), .mv (.t 3)⟩,
  ⟨some 20, some (17, true), .bin .sub (.t 19) (.c (.int .i64 1))⟩,
  ⟨some 21, some (17, true), .idx 2 (.t 18) (.t 20)⟩,
  ⟨some 22, some (17, true), .lda 2 (.t 21)⟩,
  ⟨some 23, some (17, true), .lda 2 (.t 4)⟩,
  ⟨some 24, some (17, true), .call F_impl_beforeMeaning [.t 22, .t 23]⟩,
  ⟨some 25, some (17, true), .not (.t 24)⟩,
  ⟨some 26, none, .pick (.t 17) (.t 25) (.c (.bool false))⟩,
  ⟨some 27, none, .mv (.t 26)⟩,
  ⟨some 28, some (27, false), .fld (.t 4) 0⟩,
  ⟨some 29, some (27, false), .ld (.t 28)⟩,
  ⟨some 30, some (27, false), .call F_impl_IsWord [.t 29]⟩,
  ⟨some 31, some (27, false), .not (.t 30)⟩,
  ⟨some 32, none, .pick (.t 27) (.c (.bool true)) (.t 31)⟩,
  ⟨some 33, none, .mv (.t 32)⟩,
  ⟨some 34, some (33, false), .fld (.t 4) 1⟩,
  ⟨some 35, some (33, false), .ld (.t 34)⟩,
  ⟨some 36, some (33, false), .call F_impl_InRange [.t 35, .c (.int .i64 1), .c (.int .i64 99)]⟩,
  ⟨some 37, some (33, false), .not (.t 36)⟩,
  ⟨some 38, none, .pick (.t 33) (.c (.bool true)) (.t 37)⟩]
def c_impl_IsDictionary_r4 : List GOp := [⟨some 12, none, .mv (.t 10)⟩,
  ⟨some 13, none, .idx 2 (.t 8) (.t 10)⟩,
  ⟨some 14, none, .lda 2 (.t 13)⟩,
  ⟨some 4, none, .alc [.str [], .int .i64 0]⟩,
  ⟨some 3, none, .asg true (.t 12)⟩,
  ⟨none, none, .sto 2 (.t 4) (.t 14)⟩]
def c_impl_IsDictionary_r5 : List GOp := [⟨some 11, none, .bin .lss (.t 10) (.t 9)⟩]
def c_impl_IsDictionary_b0 : CC := .seq (.reg none c_impl_IsDictionary_r5 [0, 8, 9, 10, 11]) (.seq (.cnd (.t 11) (.skip) (.exit 0)) (.seq (.blk 1 (.seq (.reg none c_impl_IsDictionary_r4 [0, 3, 4, 8, 9, 10]) (.seq (.reg (some (24, [[], [0], [0, 1], [0, 1, 2], [0, 1, 2], [0, 1, 2, 4], [0, 1, 2, 3, 4, 5], [0, 1, 2, 3, 4, 5, 6], [0, 1, 2], [0, 1, 2, 3, 4, 5, 6, 7, 8], [0, 1, 2, 3, 4, 5, 6, 7, 8, 9], [0, 1, 2, 3, 4, 5, 6, 7, 8, 9, 10], [0, 1, 2, 3, 4, 5, 6, 7, 8, 9, 10, 11], [0, 1, 2, 3, 4, 5, 6, 7, 8, 9, 10, 11, 12], [0, 1, 2, 3, 4, 5, 6, 7, 8, 9, 10, 11, 12, 13], [0, 1, 2, 3, 4, 5, 6, 7, 8, 9, 10, 11, 12, 13, 14], [0, 1, 2, 3, 4, 5, 6, 7, 8, 9, 10, 11, 12, 13, 14, 15], [0, 1, 2, 3, 4, 5, 6, 7, 8, 9, 10, 11, 12, 13, 14, 15, 16], [0, 1, 2, 3, 4, 5, 6, 7, 8, 9, 10, 11, 12, 13, 14, 15, 16, 17], [0, 1, 2, 3, 4, 5, 6, 7, 8, 9, 10, 11, 12, 13, 14, 15, 16, 17, 18], [0, 1, 2, 3, 4, 5, 6, 7, 8, 9, 10, 11, 12, 13, 14, 15, 16, 17, 18, 19], [0, 1, 2, 3, 4, 5, 6, 7, 8, 9, 10, 11, 12, 13, 14, 15, 16, 17, 18, 19, 20], [0, 1, 2, 3, 4, 5, 6, 7, 8, 9, 10, 11, 12, 13, 14, 15, 16, 17, 18, 19, 20, 21], [0, 1, 2, 3, 4, 5, 6, 7, 8, 9, 10, 11, 12, 13, 14, 15, 16, 17, 18, 19, 20, 21, 22]])) c_impl_IsDictionary_r3 [0, 8, 9, 10, 38]) (.cnd (.t 38) (.seq (.reg none c_impl_IsDictionary_r2 [2]) (.ret)) (.skip))))) (.reg none c_impl_IsDictionary_r1 [0, 8, 9, 10])))
def c_impl_IsDictionary_r6 : List GOp := [⟨some 8, none, .mv (.t 0)⟩,
  ⟨some 9, none, .len (.t 8)⟩,
  ⟨some 10, none, .mv (.c (.int .i64 0))⟩]
def c_impl_IsDictionary_r7 : List GOp := [⟨some 2, none, .asg false (.c (.bool false))⟩]
def c_impl_IsDictionary_r8 : List GOp := [⟨some 5, none, .mv (.t 0)⟩,
  ⟨some 6, none, .len (.t 5)⟩,
  ⟨some 7, none, .bin .gtr (.t 6) (.c (.int .i64 40))⟩]
def c_impl_IsDictionary_r9 : List GOp := [⟨some 2, none, .asg false (.c (.bool false))⟩]
def c_impl_IsDictionary : CC := .seq (.reg none c_impl_IsDictionary_r9 [0]) (.seq (.seq (.reg none c_impl_IsDictionary_r8 [0, 7]) (.cnd (.t 7) (.seq (.reg none c_impl_IsDictionary_r7 [2]) (.ret)) (.skip))) (.seq (.seq (.reg none c_impl_IsDictionary_r6 [0, 8, 9, 10]) (.blk 0 (.loop c_impl_IsDictionary_b0 [0, 8, 9, 10]))) (.seq (.reg none c_impl_IsDictionary_r0 [2]) (.ret))))
abbrev L_impl_IsDictionary_0 (P : Program) (E : Env) (r : List RV) : Prop := Run P [.tmp 2] (.code c_impl_IsDictionary_b0 :: .lp c_impl_IsDictionary_b0 [0, 8, 9, 10] :: [.blk 0, .code (.seq (.reg none c_impl_IsDictionary_r0 [2]) (.ret))]) E r
theorem k_impl_IsDictionary : chkF Tryz.prog Tryz.f147 c_impl_IsDictionary [.tmp 2] = true := by kernel_rfl
theorem S_impl_IsDictionary {args : List AV} {r : List RV} (hs : sizeXs Tryz.prog Tryz.f147.results.toList r = true) (hn : args.length ≤ 40) (h : Run Tryz.prog [.tmp 2] [.code c_impl_IsDictionary] (argEnv args 0) r) : CallsOK Tryz.prog F_impl_IsDictionary args r := callsOK Tryz.func147 k_impl_IsDictionary hs hn h

-- loop.example/g03003/impl.EqualDrafts
def c_impl_EqualDrafts_r0 : List GOp := [⟨some 5, none, .fld (.t 2) 0⟩,
  ⟨some 6, none, .lda 3 (.t 5)⟩,
  ⟨some 7, none, .fld (.t 3) 0⟩,
  ⟨some 8, none, .lda 3 (.t 7)⟩,
  ⟨some 9, none, .eqa [.int, .int, .str] false (.t 6) (.t 8)⟩,
  ⟨some 10, none, .mv (.t 9)⟩,
  ⟨some 11, some (10, true), .fld (.t 2) 3⟩,
  ⟨some 12, some (10, true), .ld (.t 11)⟩,
  ⟨some 13, some (10, true), .fld (.t 3) 3⟩,
  ⟨some 14, some (10, true), .ld (.t 13)⟩,
  ⟨some 15, some (10, true), .bin .eql (.t 12) (.t 14)⟩,
  ⟨some 16, none, .pick (.t 10) (.t 15) (.c (.bool false))⟩,
  ⟨some 17, none, .mv (.t 16)⟩,
  ⟨some 18, some (17, true), .fld (.t 2) 4⟩,
  ⟨some 19, some (17, true), .ld (.t 18)⟩,
  ⟨some 20, some (17, true), .fld (.t 3) 4⟩,
  ⟨some 21, some (17, true), .ld (.t 20)⟩,
  ⟨some 22, some (17, true), .call F_slices_EqualFunc_impl_Clue [.t 19, .t 21, .fn F_impl_sameClue]⟩,
  ⟨some 23, none, .pick (.t 17) (.t 22) (.c (.bool false))⟩,
  ⟨some 24, none, .mv (.t 23)⟩,
  ⟨some 25, some (24, true), .fld (.t 2) 5⟩,
  ⟨some 26, some (24, true), .ld (.t 25)⟩,
  ⟨some 27, some (24, true), .fld (.t 3) 5⟩,
  ⟨some 28, some (24, true), .ld (.t 27)⟩,
  ⟨some 29, some (24, true), .bin .eql (.t 26) (.t 28)⟩,
  ⟨some 30, none, .pick (.t 24) (.t 29) (.c (.bool false))⟩,
  ⟨some 4, none, .asg true (.t 30)⟩]
def c_impl_EqualDrafts_r1 : List GOp := [⟨some 2, none, .box (.t 0)⟩,
  ⟨some 3, none, .box (.t 1)⟩,
  ⟨some 4, none, .asg false (.c (.bool false))⟩]
def c_impl_EqualDrafts : CC := .seq (.reg none c_impl_EqualDrafts_r1 [2, 3]) (.seq (.reg none c_impl_EqualDrafts_r0 [4]) (.ret))
theorem k_impl_EqualDrafts : chkF Tryz.prog Tryz.f148 c_impl_EqualDrafts [.tmp 4] = true := by kernel_rfl
theorem S_impl_EqualDrafts {args : List AV} {r : List RV} (hs : sizeXs Tryz.prog Tryz.f148.results.toList r = true) (hn : args.length ≤ 31) (h : Run Tryz.prog [.tmp 4] [.code c_impl_EqualDrafts] (argEnv args 0) r) : CallsOK Tryz.prog F_impl_EqualDrafts args r := callsOK Tryz.func148 k_impl_EqualDrafts hs hn h

-- loop.example/g03003/impl.AreUses
def c_impl_AreUses_r0 : List GOp := [⟨some 2, none, .asg false (.c (.bool true))⟩]
def c_impl_AreUses_r1 : List GOp := [⟨some 39, none, .bin .add (.t 10) (.c (.int .i64 1))⟩,
  ⟨some 10, none, .mv (.t 39)⟩]
def c_impl_AreUses_r2 : List GOp := [⟨some 2, none, .asg false (.c (.bool false))⟩]
def c_impl_AreUses_r3 : List GOp := [⟨some 15, none, .mv (.t 3)⟩,
  ⟨some 16, none, .bin .gtr (.t 15) (.c (.int .i64 0))⟩,
  ⟨some 17, none, .mv (.t 16)⟩,
  ⟨some 18, some (17, true), .mv (.t 0)⟩,
  ⟨some 19, some (17, true), .mv (.t 3)⟩,
  ⟨some 20, some (17, true), .bin .sub (.t 19) (.c (.int .i64 1))⟩,
  ⟨some 21, some (17, true), .idx 2 (.t 18) (.t 20)⟩,
  ⟨some 22, some (17, true), .lda 2 (.t 21)⟩,
  ⟨some 23, some (17, true), .lda 2 (.t 4)⟩,
  ⟨some 24, some (17, true), .call F_impl_beforeUse [.t 22, .t 23]⟩,
  ⟨some 25, some (17, true), .not (.t 24)⟩,
  ⟨some 26, none, .pick (.t 17) (.t 25) (.c (.bool false))⟩,
  ⟨some 27, none, .mv (.t 26)⟩,
  ⟨some 28, some (27, false), .fld (.t 4) 0⟩,
  ⟨some 29, some (27, false), .ld (.t 28)⟩,
  ⟨some 30, some (27, false), .call F_impl_IsWord [.t 29]⟩,
  ⟨some 31, some (27, false), .not (.t 30)⟩,
  ⟨some 32, none, .pick (.t 27) (.c (.bool true)) (.t 31)⟩,
  ⟨some 33, none, .mv (.t 32)⟩,
  ⟨some 34, some (33, false), .fld (.t 4) 1⟩,
  ⟨some 35, some (33, false), .ld (.t 34)⟩,
  ⟨some 36, some (33, false), .call F_impl_InRange [.t 35, .c (.int .i64 1), .c (.int .i64 999)]⟩,
  ⟨some 37, some (33, false), .not (.t 36)⟩,
  ⟨some 38, none, .pick (.t 33) (.c (.bool true)) (.t 37)⟩]
def c_impl_AreUses_r4 : List GOp := [⟨some 12, none, .mv (.t 10)⟩,
  ⟨some 13, none, .idx 2 (.t 8) (.t 10)⟩,
  ⟨some 14, none, .lda 2 (.t 13)⟩,
  ⟨some 4, none, .alc [.str [], .int .i64 0]⟩,
  ⟨some 3, none, .asg true (.t 12)⟩,
  ⟨none, none, .sto 2 (.t 4) (.t 14)⟩]
def c_impl_AreUses_r5 : List GOp := [⟨some 11, none, .bin .lss (.t 10) (.t 9)⟩]
def c_impl_AreUses_b0 : CC := .seq (.reg none c_impl_AreUses_r5 [0, 8, 9, 10, 11]) (.seq (.cnd (.t 11) (.skip) (.exit 0)) (.seq (.blk 1 (.seq (.reg none c_impl_AreUses_r4 [0, 3, 4, 8, 9, 10]) (.seq (.reg (some (24, [[], [0], [0, 1], [0, 1, 2], [0, 1, 2], [0, 1, 2, 4], [0, 1, 2, 3, 4, 5], [0, 1, 2, 3, 4, 5, 6], [0, 1, 2], [0, 1, 2, 3, 4, 5, 6, 7, 8], [0, 1, 2, 3, 4, 5, 6, 7, 8, 9], [0, 1, 2, 3, 4, 5, 6, 7, 8, 9, 10], [0, 1, 2, 3, 4, 5, 6, 7, 8, 9, 10, 11], [0, 1, 2, 3, 4, 5, 6, 7, 8, 9, 10, 11, 12], [0, 1, 2, 3, 4, 5, 6, 7, 8, 9, 10, 11, 12, 13], [0, 1, 2, 3, 4, 5, 6, 7, 8, 9, 10, 11, 12, 13, 14], [0, 1, 2, 3, 4, 5, 6, 7, 8, 9, 10, 11, 12, 13, 14, 15], [0, 1, 2, 3, 4, 5, 6, 7, 8, 9, 10, 11, 12, 13, 14, 15, 16], [0, 1, 2, 3, 4, 5, 6, 7, 8, 9, 10, 11, 12, 13, 14, 15, 16, 17], [0, 1, 2, 3, 4, 5, 6, 7, 8, 9, 10, 11, 12, 13, 14, 15, 16, 17, 18], [0, 1, 2, 3, 4, 5, 6, 7, 8, 9, 10, 11, 12, 13, 14, 15, 16, 17, 18, 19], [0, 1, 2, 3, 4, 5, 6, 7, 8, 9, 10, 11, 12, 13, 14, 15, 16, 17, 18, 19, 20], [0, 1, 2, 3, 4, 5, 6, 7, 8, 9, 10, 11, 12, 13, 14, 15, 16, 17, 18, 19, 20, 21], [0, 1, 2, 3, 4, 5, 6, 7, 8, 9, 10, 11, 12, 13, 14, 15, 16, 17, 18, 19, 20, 21, 22]])) c_impl_AreUses_r3 [0, 8, 9, 10, 38]) (.cnd (.t 38) (.seq (.reg none c_impl_AreUses_r2 [2]) (.ret)) (.skip))))) (.reg none c_impl_AreUses_r1 [0, 8, 9, 10])))
def c_impl_AreUses_r6 : List GOp := [⟨some 8, none, .mv (.t 0)⟩,
  ⟨some 9, none, .len (.t 8)⟩,
  ⟨some 10, none, .mv (.c (.int .i64 0))⟩]
def c_impl_AreUses_r7 : List GOp := [⟨some 2, none, .asg false (.c (.bool false))⟩]
def c_impl_AreUses_r8 : List GOp := [⟨some 5, none, .mv (.t 0)⟩,
  ⟨some 6, none, .len (.t 5)⟩,
  ⟨some 7, none, .bin .gtr (.t 6) (.c (.int .i64 60))⟩]
def c_impl_AreUses_r9 : List GOp := [⟨some 2, none, .asg false (.c (.bool false))⟩]
def c_impl_AreUses : CC := .seq (.reg none c_impl_AreUses_r9 [0]) (.seq (.seq (.reg none c_impl_AreUses_r8 [0, 7]) (.cnd (.t 7) (.seq (.reg none c_impl_AreUses_r7 [2]) (.ret)) (.skip))) (.seq (.seq (.reg none c_impl_AreUses_r6 [0, 8, 9, 10]) (.blk 0 (.loop c_impl_AreUses_b0 [0, 8, 9, 10]))) (.seq (.reg none c_impl_AreUses_r0 [2]) (.ret))))
abbrev L_impl_AreUses_0 (P : Program) (E : Env) (r : List RV) : Prop := Run P [.tmp 2] (.code c_impl_AreUses_b0 :: .lp c_impl_AreUses_b0 [0, 8, 9, 10] :: [.blk 0, .code (.seq (.reg none c_impl_AreUses_r0 [2]) (.ret))]) E r
theorem k_impl_AreUses : chkF Tryz.prog Tryz.f150 c_impl_AreUses [.tmp 2] = true := by kernel_rfl
theorem S_impl_AreUses {args : List AV} {r : List RV} (hs : sizeXs Tryz.prog Tryz.f150.results.toList r = true) (hn : args.length ≤ 40) (h : Run Tryz.prog [.tmp 2] [.code c_impl_AreUses] (argEnv args 0) r) : CallsOK Tryz.prog F_impl_AreUses args r := callsOK Tryz.func150 k_impl_AreUses hs hn h

-- loop.example/g03003/impl.AreCorrections
def c_impl_AreCorrections_r0 : List GOp := [⟨some 2, none, .asg false (.c (.bool true))⟩]
def c_impl_AreCorrections_r1 : List GOp := [⟨some 52, none, .bin .add (.t 10) (.c (.int .i64 1))⟩,
  ⟨some 10, none, .mv (.t 52)⟩]
def c_impl_AreCorrections_r2 : List GOp := [⟨some 2, none, .asg false (.c (.bool false))⟩]
def c_impl_AreCorrections_r3 : List GOp := [⟨some 15, none, .fld (.t 4) 0⟩,
  ⟨some 16, none, .ld (.t 15)⟩,
  ⟨some 17, none, .call F_impl_InRange [.t 16, .c (.int .i64 1), .c (.int .i64 999)]⟩,
  ⟨some 18, none, .not (.t 17)⟩,
  ⟨some 19, none, .mv (.t 18)⟩,
  ⟨some 20, some (19, false), .fld (.t 4) 1⟩,
  ⟨some 21, some (19, false), .ld (.t 20)⟩,
  ⟨some 22, some (19, false), .call F_impl_InRange [.t 21, .c (.int .i64 0), .c (.int .i64 99)]⟩,
  ⟨some 23, some (19, false), .not (.t 22)⟩,
  ⟨some 24, none, .pick (.t 19) (.c (.bool true)) (.t 23)⟩,
  ⟨some 25, none, .mv (.t 24)⟩,
  ⟨some 26, some (25, false), .fld (.t 4) 2⟩,
  ⟨some 27, some (25, false), .lda 2 (.t 26)⟩,
  ⟨some 28, some (25, false), .call F_impl_IsClue [.t 27]⟩,
  ⟨some 29, some (25, false), .not (.t 28)⟩,
  ⟨some 30, none, .pick (.t 25) (.c (.bool true)) (.t 29)⟩,
  ⟨some 31, none, .mv (.t 30)⟩,
  ⟨some 32, some (31, false), .fld (.t 4) 4⟩,
  ⟨some 33, some (31, false), .ld (.t 32)⟩,
  ⟨some 34, some (31, false), .call F_impl_InRange [.t 33, .c (.int .i64 0), .c (.int .i64 1000)]⟩,
  ⟨some 35, some (31, false), .not (.t 34)⟩,
  ⟨some 36, none, .pick (.t 31) (.c (.bool true)) (.t 35)⟩,
  ⟨some 37, none, .mv (.t 36)⟩,
  ⟨some 38, some (37, false), .mv (.t 3)⟩,
  ⟨some 39, some (37, false), .bin .gtr (.t 38) (.c (.int .i64 0))⟩,
  ⟨some 40, some (37, false), .mv (.t 39)⟩,
  ⟨some 41, some (40, true), .fld (.t 4) 4⟩,
  ⟨some 42, some (40, true), .ld (.t 41)⟩,
  ⟨some 43, some (40, true), .mv (.t 0)⟩,
  ⟨some 44, some (40, true), .mv (.t 3)⟩,
  ⟨some 45, some (40, true), .bin .sub (.t 44) (.c (.int .i64 1))⟩,
  ⟨some 46, some (40, true), .idx 5 (.t 43) (.t 45)⟩,
  ⟨some 47, some (40, true), .fld (.t 46) 4⟩,
  ⟨some 48, some (40, true), .ld (.t 47)⟩,
  ⟨some 49, some (40, true), .bin .lss (.t 42) (.t 48)⟩,
  ⟨some 50, some (37, false), .pick (.t 40) (.t 49) (.c (.bool false))⟩,
  ⟨some 51, none, .pick (.t 37) (.c (.bool true)) (.t 50)⟩]
def c_impl_AreCorrections_r4 : List GOp := [⟨some 12, none, .mv (.t 10)⟩,
  ⟨some 13, none, .idx 5 (.t 8) (.t 10)⟩,
  ⟨some 14, none, .lda 5 (.t 13)⟩,
  ⟨some 4, none, .alc [.int .i64 0, .int .i64 0, .int .i64 0, .sl 4 [], .int .i64 0]⟩,
  ⟨some 3, none, .asg true (.t 12)⟩,
  ⟨none, none, .sto 5 (.t 4) (.t 14)⟩]
def c_impl_AreCorrections_r5 : List GOp := [⟨some 11, none, .bin .lss (.t 10) (.t 9)⟩]
def c_impl_AreCorrections_b0 : CC := .seq (.reg none c_impl_AreCorrections_r5 [0, 8, 9, 10, 11]) (.seq (.cnd (.t 11) (.skip) (.exit 0)) (.seq (.blk 1 (.seq (.reg none c_impl_AreCorrections_r4 [0, 3, 4, 8, 9, 10]) (.seq (.reg (some (37, [[], [0], [0, 1], [0, 1, 2], [0, 1, 2, 3], [0, 1, 2, 3, 4], [0, 1, 2, 3, 4, 5], [0, 1, 2, 3, 4, 5, 6], [0, 1, 2, 3, 4, 5, 6, 7], [0, 1, 2, 3, 4, 5, 6, 7, 8], [0, 1, 2, 3, 4, 5, 6, 7, 8, 9], [0, 1, 2, 3, 4, 5, 6, 7, 8, 9, 10], [0, 1, 2, 3, 4, 5, 6, 7, 8, 9, 10, 11], [0, 1, 2, 3, 4, 5, 6, 7, 8, 9, 10, 11, 12], [0, 1, 2, 3, 4, 5, 6, 7, 8, 9, 10, 11, 12, 13], [0, 1, 2, 3, 4, 5, 6, 7, 8, 9, 10, 11, 12, 13, 14], [0, 1, 2, 3, 4, 5, 6, 7, 8, 9, 10, 11, 12, 13, 14, 15], [0, 1, 2, 3, 4, 5, 6, 7, 8, 9, 10, 11, 12, 13, 14, 15, 16], [0, 1, 2, 3, 4, 5, 6, 7, 8, 9, 10, 11, 12, 13, 14, 15, 16, 17], [0, 1, 2, 3, 4, 5, 6, 7, 8, 9, 10, 11, 12, 13, 14, 15, 16, 17, 18], [0, 1, 2, 3, 4, 5, 6, 7, 8, 9, 10, 11, 12, 13, 14, 15, 16, 17, 18, 19], [0, 1, 2, 3, 4, 5, 6, 7, 8, 9, 10, 11, 12, 13, 14, 15, 16, 17, 18, 19, 20], [0, 1, 2, 3, 4, 5, 6, 7, 8, 9, 10, 11, 12, 13, 14, 15, 16, 17, 18, 19, 20, 21], [0, 1, 2, 3, 4, 5, 6, 7, 8, 9, 10, 11, 12, 13, 14, 15, 16, 17, 18, 19, 20, 21, 22], [0, 1, 2, 3, 4, 5, 6, 7, 8, 9, 10, 11, 12, 13, 14, 15, 16, 17, 18, 19, 20, 21, 22, 23], [0, 1, 2, 3, 4, 5, 6, 7, 8, 9, 10, 11, 12, 13, 14, 15, 16, 17, 18, 19, 20, 21, 22, 23, 24], [0, 1, 2, 3, 4, 5, 6, 7, 8, 9, 10, 11, 12, 13, 14, 15, 16, 17, 18, 19, 20, 21, 22, 23, 24, 25], [0, 1, 2, 3, 4, 5, 6, 7, 8, 9, 10, 11, 12, 13, 14, 15, 16, 17, 18, 19, 20, 21, 22, 23, 24, 25, 26], [0, 1, 2, 3, 4, 5, 6, 7, 8, 9, 10, 11, 12, 13, 14, 15, 16, 17, 18, 19, 20, 21, 22, 23, 24, 25], [0, 1, 2, 3, 4, 5, 6, 7, 8, 9, 10, 11, 12, 13, 14, 15, 16, 17, 18, 19, 20, 21, 22, 23, 24, 25], [0, 1, 2, 3, 4, 5, 6, 7, 8, 9, 10, 11, 12, 13, 14, 15, 16, 17, 18, 19, 20, 21, 22, 23, 24, 25, 29], [0, 1, 2, 3, 4, 5, 6, 7, 8, 9, 10, 11, 12, 13, 14, 15, 16, 17, 18, 19, 20, 21, 22, 23, 24, 25, 28, 29, 30], [0, 1, 2, 3, 4, 5, 6, 7, 8, 9, 10, 11, 12, 13, 14, 15, 16, 17, 18, 19, 20, 21, 22, 23, 24, 25, 28, 29, 30, 31], [0, 1, 2, 3, 4, 5, 6, 7, 8, 9, 10, 11, 12, 13, 14, 15, 16, 17, 18, 19, 20, 21, 22, 23, 24, 25, 28, 29, 30, 31, 32], [0, 1, 2, 3, 4, 5, 6, 7, 8, 9, 10, 11, 12, 13, 14, 15, 16, 17, 18, 19, 20, 21, 22, 23, 24, 25, 26, 27, 28, 29, 30, 31, 32, 33], [0, 1, 2, 3, 4, 5, 6, 7, 8, 9, 10, 11, 12, 13, 14, 15, 16, 17, 18, 19, 20, 21, 22, 23, 24, 25, 26, 27, 28, 29, 30, 31, 32, 33, 34], [0, 1, 2, 3, 4, 5, 6, 7, 8, 9, 10, 11, 12, 13, 14, 15, 16, 17, 18, 19, 20, 21, 22, 23, 24, 25, 26, 27, 28, 29, 30, 31, 32, 33, 34, 35]])) c_impl_AreCorrections_r3 [0, 8, 9, 10, 51]) (.cnd (.t 51) (.seq (.reg none c_impl_AreCorrections_r2 [2]) (.ret)) (.skip))))) (.reg none c_impl_AreCorrections_r1 [0, 8, 9, 10])))
def c_impl_AreCorrections_r6 : List GOp := [⟨some 8, none, .mv (.t 0)⟩,
  ⟨some 9, none, .len (.t 8)⟩,
  ⟨some 10, none, .mv (.c (.int .i64 0))⟩]
def c_impl_AreCorrections_r7 : List GOp := [⟨some 2, none, .asg false (.c (.bool false))⟩]
def c_impl_AreCorrections_r8 : List GOp := [⟨some 5, none, .mv (.t 0)⟩,
  ⟨some 6, none, .len (.t 5)⟩,
  ⟨some 7, none, .bin .gtr (.t 6) (.c (.int .i64 12))⟩]
def c_impl_AreCorrections_r9 : List GOp := [⟨some 2, none, .asg false (.c (.bool false))⟩]
def c_impl_AreCorrections : CC := .seq (.reg none c_impl_AreCorrections_r9 [0]) (.seq (.seq (.reg none c_impl_AreCorrections_r8 [0, 7]) (.cnd (.t 7) (.seq (.reg none c_impl_AreCorrections_r7 [2]) (.ret)) (.skip))) (.seq (.seq (.reg none c_impl_AreCorrections_r6 [0, 8, 9, 10]) (.blk 0 (.loop c_impl_AreCorrections_b0 [0, 8, 9, 10]))) (.seq (.reg none c_impl_AreCorrections_r0 [2]) (.ret))))
abbrev L_impl_AreCorrections_0 (P : Program) (E : Env) (r : List RV) : Prop := Run P [.tmp 2] (.code c_impl_AreCorrections_b0 :: .lp c_impl_AreCorrections_b0 [0, 8, 9, 10] :: [.blk 0, .code (.seq (.reg none c_impl_AreCorrections_r0 [2]) (.ret))]) E r
theorem k_impl_AreCorrections : chkF Tryz.prog Tryz.f151 c_impl_AreCorrections [.tmp 2] = true := by kernel_rfl
theorem S_impl_AreCorrections {args : List AV} {r : List RV} (hs : sizeXs Tryz.prog Tryz.f151.results.toList r = true) (hn : args.length ≤ 53) (h : Run Tryz.prog [.tmp 2] [.code c_impl_AreCorrections] (argEnv args 0) r) : CallsOK Tryz.prog F_impl_AreCorrections args r := callsOK Tryz.func151 k_impl_AreCorrections hs hn h

-- loop.example/g03003/impl.InRange
def c_impl_InRange_r0 : List GOp := [⟨some 7, none, .mv (.t 1)⟩,
  ⟨some 8, none, .mv (.t 0)⟩,
  ⟨some 9, none, .bin .leq (.t 7) (.t 8)⟩,
  ⟨some 10, none, .mv (.t 9)⟩,
  ⟨some 11, some (10, true), .mv (.t 0)⟩,
  ⟨some 12, some (10, true), .mv (.t 2)⟩,
  ⟨some 13, some (10, true), .bin .leq (.t 11) (.t 12)⟩,
  ⟨some 14, none, .pick (.t 10) (.t 13) (.c (.bool false))⟩,
  ⟨some 6, none, .asg true (.t 14)⟩]
def c_impl_InRange_r1 : List GOp := [⟨some 6, none, .asg false (.c (.bool false))⟩]
def c_impl_InRange : CC := .seq (.reg none c_impl_InRange_r1 [0, 1, 2]) (.seq (.reg none c_impl_InRange_r0 [6]) (.ret))
theorem k_impl_InRange : chkF Tryz.prog Tryz.f152 c_impl_InRange [.tmp 6] = true := by kernel_rfl
theorem S_impl_InRange {args : List AV} {r : List RV} (hs : sizeXs Tryz.prog Tryz.f152.results.toList r = true) (hn : args.length ≤ 15) (h : Run Tryz.prog [.tmp 6] [.code c_impl_InRange] (argEnv args 0) r) : CallsOK Tryz.prog F_impl_InRange args r := callsOK Tryz.func152 k_impl_InRange hs hn h

-- loop.example/g03003/laws.eqGrid
def c_laws_eqGrid_r0 : List GOp := [⟨some 4, none, .asg false (.c (.bool true))⟩]
def c_laws_eqGrid_r1 : List GOp := [⟨some 4, none, .asg false (.c (.bool false))⟩]
def c_laws_eqGrid_r2 : List GOp := [⟨some 15, none, .fld (.t 2) 2⟩,
  ⟨some 16, none, .ld (.t 15)⟩,
  ⟨some 17, none, .fld (.t 3) 2⟩,
  ⟨some 18, none, .ld (.t 17)⟩,
  ⟨some 19, none, .bin .neq (.t 16) (.t 18)⟩]
def c_laws_eqGrid_r3 : List GOp := [⟨some 4, none, .asg false (.c (.bool false))⟩]
def c_laws_eqGrid_r4 : List GOp := [⟨some 10, none, .fld (.t 2) 1⟩,
  ⟨some 11, none, .ld (.t 10)⟩,
  ⟨some 12, none, .fld (.t 3) 1⟩,
  ⟨some 13, none, .ld (.t 12)⟩,
  ⟨some 14, none, .bin .neq (.t 11) (.t 13)⟩]
def c_laws_eqGrid_r5 : List GOp := [⟨some 4, none, .asg false (.c (.bool false))⟩]
def c_laws_eqGrid_r6 : List GOp := [⟨some 5, none, .fld (.t 2) 0⟩,
  ⟨some 6, none, .ld (.t 5)⟩,
  ⟨some 7, none, .fld (.t 3) 0⟩,
  ⟨some 8, none, .ld (.t 7)⟩,
  ⟨some 9, none, .bin .neq (.t 6) (.t 8)⟩]
def c_laws_eqGrid_r7 : List GOp := [⟨some 2, none, .box (.t 0)⟩,
  ⟨some 3, none, .box (.t 1)⟩,
  ⟨some 4, none, .asg false (.c (.bool false))⟩]
def c_laws_eqGrid : CC := .seq (.reg none c_laws_eqGrid_r7 [2, 3]) (.seq (.seq (.reg none c_laws_eqGrid_r6 [2, 3, 9]) (.cnd (.t 9) (.seq (.reg none c_laws_eqGrid_r5 [4]) (.ret)) (.skip))) (.seq (.seq (.reg none c_laws_eqGrid_r4 [2, 3, 14]) (.cnd (.t 14) (.seq (.reg none c_laws_eqGrid_r3 [4]) (.ret)) (.skip))) (.seq (.seq (.reg none c_laws_eqGrid_r2 [19]) (.cnd (.t 19) (.seq (.reg none c_laws_eqGrid_r1 [4]) (.ret)) (.skip))) (.seq (.reg none c_laws_eqGrid_r0 [4]) (.ret)))))
theorem k_laws_eqGrid : chkF Tryz.prog Tryz.f154 c_laws_eqGrid [.tmp 4] = true := by kernel_rfl
theorem S_laws_eqGrid {args : List AV} {r : List RV} (hs : sizeXs Tryz.prog Tryz.f154.results.toList r = true) (hn : args.length ≤ 20) (h : Run Tryz.prog [.tmp 4] [.code c_laws_eqGrid] (argEnv args 0) r) : CallsOK Tryz.prog F_laws_eqGrid args r := callsOK Tryz.func154 k_laws_eqGrid hs hn h

-- loop.example/g03003/laws.eqClueS
def c_laws_eqClueS_r0 : List GOp := [⟨some 4, none, .asg false (.c (.bool true))⟩]
def c_laws_eqClueS_r1 : List GOp := [⟨some 15, none, .mv (.t 5)⟩,
  ⟨some 16, none, .bin .add (.t 15) (.c (.int .i64 1))⟩,
  ⟨some 5, none, .asg true (.t 16)⟩]
def c_laws_eqClueS_r2 : List GOp := [⟨some 4, none, .asg false (.c (.bool false))⟩]
def c_laws_eqClueS_r3 : List GOp := [⟨some 17, none, .mv (.t 0)⟩,
  ⟨some 18, none, .mv (.t 5)⟩,
  ⟨some 19, none, .idx 2 (.t 17) (.t 18)⟩,
  ⟨some 20, none, .lda 2 (.t 19)⟩,
  ⟨some 21, none, .mv (.t 1)⟩,
  ⟨some 22, none, .mv (.t 5)⟩,
  ⟨some 23, none, .idx 2 (.t 21) (.t 22)⟩,
  ⟨some 24, none, .lda 2 (.t 23)⟩,
  ⟨some 25, none, .call F_laws_eqClue [.t 20, .t 24]⟩,
  ⟨some 26, none, .not (.t 25)⟩]
def c_laws_eqClueS_r4 : List GOp := [⟨some 11, none, .mv (.t 5)⟩,
  ⟨some 12, none, .mv (.t 0)⟩,
  ⟨some 13, none, .len (.t 12)⟩,
  ⟨some 14, none, .bin .lss (.t 11) (.t 13)⟩]
def c_laws_eqClueS_b0 : CC := .seq (.seq (.reg none c_laws_eqClueS_r4 [0, 1, 5, 14]) (.cnd (.t 14) (.skip) (.exit 0))) (.seq (.blk 1 (.seq (.reg (some (10, [[], [], [0, 1], [0, 1, 2], [], [], [4, 5], [4, 5, 6], [0, 1, 2, 3, 4, 5, 6, 7], [0, 1, 2, 3, 4, 5, 6, 7, 8]])) c_laws_eqClueS_r3 [0, 1, 5, 26]) (.cnd (.t 26) (.seq (.reg none c_laws_eqClueS_r2 [4]) (.ret)) (.skip)))) (.reg none c_laws_eqClueS_r1 [0, 1, 5]))
def c_laws_eqClueS_r5 : List GOp := [⟨some 5, none, .asg false (.c (.int .i64 0))⟩]
def c_laws_eqClueS_r6 : List GOp := [⟨some 4, none, .asg false (.c (.bool false))⟩]
def c_laws_eqClueS_r7 : List GOp := [⟨some 6, none, .mv (.t 0)⟩,
  ⟨some 7, none, .len (.t 6)⟩,
  ⟨some 8, none, .mv (.t 1)⟩,
  ⟨some 9, none, .len (.t 8)⟩,
  ⟨some 10, none, .bin .neq (.t 7) (.t 9)⟩]
def c_laws_eqClueS_r8 : List GOp := [⟨some 4, none, .asg false (.c (.bool false))⟩]
def c_laws_eqClueS : CC := .seq (.reg none c_laws_eqClueS_r8 [0, 1]) (.seq (.seq (.reg none c_laws_eqClueS_r7 [0, 1, 10]) (.cnd (.t 10) (.seq (.reg none c_laws_eqClueS_r6 [4]) (.ret)) (.skip))) (.seq (.seq (.reg none c_laws_eqClueS_r5 [0, 1, 5]) (.blk 0 (.loop c_laws_eqClueS_b0 [0, 1, 5]))) (.seq (.reg none c_laws_eqClueS_r0 [4]) (.ret))))
abbrev L_laws_eqClueS_0 (P : Program) (E : Env) (r : List RV) : Prop := Run P [.tmp 4] (.code c_laws_eqClueS_b0 :: .lp c_laws_eqClueS_b0 [0, 1, 5] :: [.blk 0, .code (.seq (.reg none c_laws_eqClueS_r0 [4]) (.ret))]) E r
theorem k_laws_eqClueS : chkF Tryz.prog Tryz.f155 c_laws_eqClueS [.tmp 4] = true := by kernel_rfl
theorem S_laws_eqClueS {args : List AV} {r : List RV} (hs : sizeXs Tryz.prog Tryz.f155.results.toList r = true) (hn : args.length ≤ 27) (h : Run Tryz.prog [.tmp 4] [.code c_laws_eqClueS] (argEnv args 0) r) : CallsOK Tryz.prog F_laws_eqClueS args r := callsOK Tryz.func155 k_laws_eqClueS hs hn h

-- loop.example/g03003/laws.eqIssue
def c_laws_eqIssue_r0 : List GOp := [⟨some 4, none, .asg false (.c (.bool true))⟩]
def c_laws_eqIssue_r1 : List GOp := [⟨some 4, none, .asg false (.c (.bool false))⟩]
def c_laws_eqIssue_r2 : List GOp := [⟨some 26, none, .fld (.t 2) 9⟩,
  ⟨some 27, none, .ld (.t 26)⟩,
  ⟨some 28, none, .fld (.t 3) 9⟩,
  ⟨some 29, none, .ld (.t 28)⟩,
  ⟨some 30, none, .bin .neq (.t 27) (.t 29)⟩]
def c_laws_eqIssue_r3 : List GOp := [⟨some 4, none, .asg false (.c (.bool false))⟩]
def c_laws_eqIssue_r4 : List GOp := [⟨some 21, none, .fld (.t 2) 8⟩,
  ⟨some 22, none, .ld (.t 21)⟩,
  ⟨some 23, none, .fld (.t 3) 8⟩,
  ⟨some 24, none, .ld (.t 23)⟩,
  ⟨some 25, none, .bin .neq (.t 22) (.t 24)⟩]
def c_laws_eqIssue_r5 : List GOp := [⟨some 4, none, .asg false (.c (.bool false))⟩]
def c_laws_eqIssue_r6 : List GOp := [⟨some 16, none, .fld (.t 2) 7⟩,
  ⟨some 17, none, .ld (.t 16)⟩,
  ⟨some 18, none, .fld (.t 3) 7⟩,
  ⟨some 19, none, .ld (.t 18)⟩,
  ⟨some 20, none, .bin .neq (.t 17) (.t 19)⟩]
def c_laws_eqIssue_r7 : List GOp := [⟨some 4, none, .asg false (.c (.bool false))⟩]
def c_laws_eqIssue_r8 : List GOp := [⟨some 10, none, .fld (.t 2) 1⟩,
  ⟨some 11, none, .lda 6 (.t 10)⟩,
  ⟨some 12, none, .fld (.t 3) 1⟩,
  ⟨some 13, none, .lda 6 (.t 12)⟩,
  ⟨some 14, none, .call F_laws_eqPuzzle [.t 11, .t 13]⟩,
  ⟨some 15, none, .not (.t 14)⟩]
def c_laws_eqIssue_r9 : List GOp := [⟨some 4, none, .asg false (.c (.bool false))⟩]
def c_laws_eqIssue_r10 : List GOp := [⟨some 5, none, .fld (.t 2) 0⟩,
  ⟨some 6, none, .ld (.t 5)⟩,
  ⟨some 7, none, .fld (.t 3) 0⟩,
  ⟨some 8, none, .ld (.t 7)⟩,
  ⟨some 9, none, .bin .neq (.t 6) (.t 8)⟩]
def c_laws_eqIssue_r11 : List GOp := [⟨some 2, none, .box (.t 0)⟩,
  ⟨some 3, none, .box (.t 1)⟩,
  ⟨some 4, none, .asg false (.c (.bool false))⟩]
def c_laws_eqIssue : CC := .seq (.reg none c_laws_eqIssue_r11 [2, 3]) (.seq (.seq (.reg none c_laws_eqIssue_r10 [2, 3, 9]) (.cnd (.t 9) (.seq (.reg none c_laws_eqIssue_r9 [4]) (.ret)) (.skip))) (.seq (.seq (.reg none c_laws_eqIssue_r8 [2, 3, 15]) (.cnd (.t 15) (.seq (.reg none c_laws_eqIssue_r7 [4]) (.ret)) (.skip))) (.seq (.seq (.reg none c_laws_eqIssue_r6 [2, 3, 20]) (.cnd (.t 20) (.seq (.reg none c_laws_eqIssue_r5 [4]) (.ret)) (.skip))) (.seq (.seq (.reg none c_laws_eqIssue_r4 [2, 3, 25]) (.cnd (.t 25) (.seq (.reg none c_laws_eqIssue_r3 [4]) (.ret)) (.skip))) (.seq (.seq (.reg none c_laws_eqIssue_r2 [30]) (.cnd (.t 30) (.seq (.reg none c_laws_eqIssue_r1 [4]) (.ret)) (.skip))) (.seq (.reg none c_laws_eqIssue_r0 [4]) (.ret)))))))
theorem k_laws_eqIssue : chkF Tryz.prog Tryz.f156 c_laws_eqIssue [.tmp 4] = true := by kernel_rfl
theorem S_laws_eqIssue {args : List AV} {r : List RV} (hs : sizeXs Tryz.prog Tryz.f156.results.toList r = true) (hn : args.length ≤ 31) (h : Run Tryz.prog [.tmp 4] [.code c_laws_eqIssue] (argEnv args 0) r) : CallsOK Tryz.prog F_laws_eqIssue args r := callsOK Tryz.func156 k_laws_eqIssue hs hn h

-- loop.example/g03003/laws.eqUsed
def c_laws_eqUsed_r0 : List GOp := [⟨some 4, none, .asg false (.c (.bool true))⟩]
def c_laws_eqUsed_r1 : List GOp := [⟨some 4, none, .asg false (.c (.bool false))⟩]
def c_laws_eqUsed_r2 : List GOp := [⟨some 10, none, .fld (.t 2) 1⟩,
  ⟨some 11, none, .ld (.t 10)⟩,
  ⟨some 12, none, .fld (.t 3) 1⟩,
  ⟨some 13, none, .ld (.t 12)⟩,
  ⟨some 14, none, .bin .neq (.t 11) (.t 13)⟩]
def c_laws_eqUsed_r3 : List GOp := [⟨some 4, none, .asg false (.c (.bool false))⟩]
def c_laws_eqUsed_r4 : List GOp := [⟨some 5, none, .fld (.t 2) 0⟩,
  ⟨some 6, none, .ld (.t 5)⟩,
  ⟨some 7, none, .fld (.t 3) 0⟩,
  ⟨some 8, none, .ld (.t 7)⟩,
  ⟨some 9, none, .bin .neq (.t 6) (.t 8)⟩]
def c_laws_eqUsed_r5 : List GOp := [⟨some 2, none, .box (.t 0)⟩,
  ⟨some 3, none, .box (.t 1)⟩,
  ⟨some 4, none, .asg false (.c (.bool false))⟩]
def c_laws_eqUsed : CC := .seq (.reg none c_laws_eqUsed_r5 [2, 3]) (.seq (.seq (.reg none c_laws_eqUsed_r4 [2, 3, 9]) (.cnd (.t 9) (.seq (.reg none c_laws_eqUsed_r3 [4]) (.ret)) (.skip))) (.seq (.seq (.reg none c_laws_eqUsed_r2 [14]) (.cnd (.t 14) (.seq (.reg none c_laws_eqUsed_r1 [4]) (.ret)) (.skip))) (.seq (.reg none c_laws_eqUsed_r0 [4]) (.ret))))
theorem k_laws_eqUsed : chkF Tryz.prog Tryz.f157 c_laws_eqUsed [.tmp 4] = true := by kernel_rfl
theorem S_laws_eqUsed {args : List AV} {r : List RV} (hs : sizeXs Tryz.prog Tryz.f157.results.toList r = true) (hn : args.length ≤ 15) (h : Run Tryz.prog [.tmp 4] [.code c_laws_eqUsed] (argEnv args 0) r) : CallsOK Tryz.prog F_laws_eqUsed args r := callsOK Tryz.func157 k_laws_eqUsed hs hn h

-- loop.example/g03003/laws.eqCorrection
def c_laws_eqCorrection_r0 : List GOp := [⟨some 4, none, .asg false (.c (.bool true))⟩]
def c_laws_eqCorrection_r1 : List GOp := [⟨some 4, none, .asg false (.c (.bool false))⟩]
def c_laws_eqCorrection_r2 : List GOp := [⟨some 21, none, .fld (.t 2) 4⟩,
  ⟨some 22, none, .ld (.t 21)⟩,
  ⟨some 23, none, .fld (.t 3) 4⟩,
  ⟨some 24, none, .ld (.t 23)⟩,
  ⟨some 25, none, .bin .neq (.t 22) (.t 24)⟩]
def c_laws_eqCorrection_r3 : List GOp := [⟨some 4, none, .asg false (.c (.bool false))⟩]
def c_laws_eqCorrection_r4 : List GOp := [⟨some 15, none, .fld (.t 2) 2⟩,
  ⟨some 16, none, .lda 2 (.t 15)⟩,
  ⟨some 17, none, .fld (.t 3) 2⟩,
  ⟨some 18, none, .lda 2 (.t 17)⟩,
  ⟨some 19, none, .call F_laws_eqClue [.t 16, .t 18]⟩,
  ⟨some 20, none, .not (.t 19)⟩]
def c_laws_eqCorrection_r5 : List GOp := [⟨some 4, none, .asg false (.c (.bool false))⟩]
def c_laws_eqCorrection_r6 : List GOp := [⟨some 10, none, .fld (.t 2) 1⟩,
  ⟨some 11, none, .ld (.t 10)⟩,
  ⟨some 12, none, .fld (.t 3) 1⟩,
  ⟨some 13, none, .ld (.t 12)⟩,
  ⟨some 14, none, .bin .neq (.t 11) (.t 13)⟩]
def c_laws_eqCorrection_r7 : List GOp := [⟨some 4, none, .asg false (.c (.bool false))⟩]
def c_laws_eqCorrection_r8 : List GOp := [⟨some 5, none, .fld (.t 2) 0⟩,
  ⟨some 6, none, .ld (.t 5)⟩,
  ⟨some 7, none, .fld (.t 3) 0⟩,
  ⟨some 8, none, .ld (.t 7)⟩,
  ⟨some 9, none, .bin .neq (.t 6) (.t 8)⟩]
def c_laws_eqCorrection_r9 : List GOp := [⟨some 2, none, .box (.t 0)⟩,
  ⟨some 3, none, .box (.t 1)⟩,
  ⟨some 4, none, .asg false (.c (.bool false))⟩]
def c_laws_eqCorrection : CC := .seq (.reg none c_laws_eqCorrection_r9 [2, 3]) (.seq (.seq (.reg none c_laws_eqCorrection_r8 [2, 3, 9]) (.cnd (.t 9) (.seq (.reg none c_laws_eqCorrection_r7 [4]) (.ret)) (.skip))) (.seq (.seq (.reg none c_laws_eqCorrection_r6 [2, 3, 14]) (.cnd (.t 14) (.seq (.reg none c_laws_eqCorrection_r5 [4]) (.ret)) (.skip))) (.seq (.seq (.reg none c_laws_eqCorrection_r4 [2, 3, 20]) (.cnd (.t 20) (.seq (.reg none c_laws_eqCorrection_r3 [4]) (.ret)) (.skip))) (.seq (.seq (.reg none c_laws_eqCorrection_r2 [25]) (.cnd (.t 25) (.seq (.reg none c_laws_eqCorrection_r1 [4]) (.ret)) (.skip))) (.seq (.reg none c_laws_eqCorrection_r0 [4]) (.ret))))))
theorem k_laws_eqCorrection : chkF Tryz.prog Tryz.f158 c_laws_eqCorrection [.tmp 4] = true := by kernel_rfl
theorem S_laws_eqCorrection {args : List AV} {r : List RV} (hs : sizeXs Tryz.prog Tryz.f158.results.toList r = true) (hn : args.length ≤ 26) (h : Run Tryz.prog [.tmp 4] [.code c_laws_eqCorrection] (argEnv args 0) r) : CallsOK Tryz.prog F_laws_eqCorrection args r := callsOK Tryz.func158 k_laws_eqCorrection hs hn h

-- loop.example/g03003/laws.eqEntry
def c_laws_eqEntry_r0 : List GOp := [⟨some 4, none, .asg false (.c (.bool true))⟩]
def c_laws_eqEntry_r1 : List GOp := [⟨some 4, none, .asg false (.c (.bool false))⟩]
def c_laws_eqEntry_r2 : List GOp := [⟨some 20, none, .fld (.t 2) 3⟩,
  ⟨some 21, none, .ld (.t 20)⟩,
  ⟨some 22, none, .fld (.t 3) 3⟩,
  ⟨some 23, none, .ld (.t 22)⟩,
  ⟨some 24, none, .bin .neq (.t 21) (.t 23)⟩]
def c_laws_eqEntry_r3 : List GOp := [⟨some 4, none, .asg false (.c (.bool false))⟩]
def c_laws_eqEntry_r4 : List GOp := [⟨some 15, none, .fld (.t 2) 2⟩,
  ⟨some 16, none, .ld (.t 15)⟩,
  ⟨some 17, none, .fld (.t 3) 2⟩,
  ⟨some 18, none, .ld (.t 17)⟩,
  ⟨some 19, none, .bin .neq (.t 16) (.t 18)⟩]
def c_laws_eqEntry_r5 : List GOp := [⟨some 4, none, .asg false (.c (.bool false))⟩]
def c_laws_eqEntry_r6 : List GOp := [⟨some 10, none, .fld (.t 2) 1⟩,
  ⟨some 11, none, .ld (.t 10)⟩,
  ⟨some 12, none, .fld (.t 3) 1⟩,
  ⟨some 13, none, .ld (.t 12)⟩,
  ⟨some 14, none, .bin .neq (.t 11) (.t 13)⟩]
def c_laws_eqEntry_r7 : List GOp := [⟨some 4, none, .asg false (.c (.bool false))⟩]
def c_laws_eqEntry_r8 : List GOp := [⟨some 5, none, .fld (.t 2) 0⟩,
  ⟨some 6, none, .ld (.t 5)⟩,
  ⟨some 7, none, .fld (.t 3) 0⟩,
  ⟨some 8, none, .ld (.t 7)⟩,
  ⟨some 9, none, .bin .neq (.t 6) (.t 8)⟩]
def c_laws_eqEntry_r9 : List GOp := [⟨some 2, none, .box (.t 0)⟩,
  ⟨some 3, none, .box (.t 1)⟩,
  ⟨some 4, none, .asg false (.c (.bool false))⟩]
def c_laws_eqEntry : CC := .seq (.reg none c_laws_eqEntry_r9 [2, 3]) (.seq (.seq (.reg none c_laws_eqEntry_r8 [2, 3, 9]) (.cnd (.t 9) (.seq (.reg none c_laws_eqEntry_r7 [4]) (.ret)) (.skip))) (.seq (.seq (.reg none c_laws_eqEntry_r6 [2, 3, 14]) (.cnd (.t 14) (.seq (.reg none c_laws_eqEntry_r5 [4]) (.ret)) (.skip))) (.seq (.seq (.reg none c_laws_eqEntry_r4 [2, 3, 19]) (.cnd (.t 19) (.seq (.reg none c_laws_eqEntry_r3 [4]) (.ret)) (.skip))) (.seq (.seq (.reg none c_laws_eqEntry_r2 [24]) (.cnd (.t 24) (.seq (.reg none c_laws_eqEntry_r1 [4]) (.ret)) (.skip))) (.seq (.reg none c_laws_eqEntry_r0 [4]) (.ret))))))
theorem k_laws_eqEntry : chkF Tryz.prog Tryz.f159 c_laws_eqEntry [.tmp 4] = true := by kernel_rfl
theorem S_laws_eqEntry {args : List AV} {r : List RV} (hs : sizeXs Tryz.prog Tryz.f159.results.toList r = true) (hn : args.length ≤ 25) (h : Run Tryz.prog [.tmp 4] [.code c_laws_eqEntry] (argEnv args 0) r) : CallsOK Tryz.prog F_laws_eqEntry args r := callsOK Tryz.func159 k_laws_eqEntry hs hn h

-- loop.example/g03003/laws.markClueS
def c_laws_markClueS_r0 : List GOp := [⟨some 26, none, .mv (.t 1)⟩,
  ⟨some 4, none, .asg true (.t 26)⟩]
def c_laws_markClueS_r1 : List GOp := [⟨some 10, none, .mv (.t 5)⟩,
  ⟨some 11, none, .bin .add (.t 10) (.c (.int .i64 1))⟩,
  ⟨some 5, none, .asg true (.t 11)⟩]
def c_laws_markClueS_r2 : List GOp := [⟨some 19, none, .mv (.t 0)⟩,
  ⟨some 20, none, .mv (.t 5)⟩,
  ⟨some 21, none, .idx 2 (.t 19) (.t 20)⟩,
  ⟨some 22, none, .fld (.t 21) 1⟩,
  ⟨some 23, none, .ld (.t 22)⟩,
  ⟨some 24, none, .mv (.t 1)⟩,
  ⟨some 25, none, .call F_laws_markStepS [.t 23, .t 24]⟩,
  ⟨some 1, none, .asg true (.t 25)⟩]
def c_laws_markClueS_r3 : List GOp := [⟨some 17, none, .mv (.t 1)⟩,
  ⟨some 18, none, .bin .add (.t 17) (.c (.int .i64 1))⟩,
  ⟨some 1, none, .asg true (.t 18)⟩]
def c_laws_markClueS_r4 : List GOp := [⟨some 12, none, .mv (.t 0)⟩,
  ⟨some 13, none, .mv (.t 5)⟩,
  ⟨some 14, none, .mv (.t 1)⟩,
  ⟨some 15, none, .idx 2 (.t 12) (.t 13)⟩,
  ⟨some 16, none, .fld (.t 15) 0⟩,
  ⟨none, none, .sto 1 (.t 16) (.t 14)⟩]
def c_laws_markClueS_r5 : List GOp := [⟨some 6, none, .mv (.t 5)⟩,
  ⟨some 7, none, .mv (.t 0)⟩,
  ⟨some 8, none, .len (.t 7)⟩,
  ⟨some 9, none, .bin .lss (.t 6) (.t 8)⟩]
def c_laws_markClueS_b0 : CC := .seq (.seq (.reg none c_laws_markClueS_r5 [0, 1, 5, 9, 1000, 1001, 1002, 1003, 1004, 1005, 1006, 1007, 1008, 1009]) (.cnd (.t 9) (.skip) (.exit 0))) (.seq (.blk 1 (.seq (.reg none c_laws_markClueS_r4 [0, 1, 5, 1000, 1001, 1002, 1003, 1004, 1005, 1006, 1007, 1008, 1009]) (.seq (.reg none c_laws_markClueS_r3 [0, 1, 5, 1000, 1001, 1002, 1003, 1004, 1005, 1006, 1007, 1008, 1009]) (.reg none c_laws_markClueS_r2 [0, 1, 5, 1000, 1001, 1002, 1003, 1004, 1005, 1006, 1007, 1008, 1009])))) (.reg none c_laws_markClueS_r1 [0, 1, 5, 1000, 1001, 1002, 1003, 1004, 1005, 1006, 1007, 1008, 1009]))
def c_laws_markClueS_r6 : List GOp := [⟨some 5, none, .asg false (.c (.int .i64 0))⟩]
def c_laws_markClueS_r7 : List GOp := [⟨some 4, none, .asg false (.c (.int .i64 0))⟩]
def c_laws_markClueS : CC := .seq (.reg none c_laws_markClueS_r7 [0, 1, 1000, 1001, 1002, 1003, 1004, 1005, 1006, 1007, 1008, 1009]) (.seq (.seq (.reg none c_laws_markClueS_r6 [0, 1, 5, 1000, 1001, 1002, 1003, 1004, 1005, 1006, 1007, 1008, 1009]) (.blk 0 (.loop c_laws_markClueS_b0 [0, 1, 5, 1000, 1001, 1002, 1003, 1004, 1005, 1006, 1007, 1008, 1009]))) (.seq (.reg none c_laws_markClueS_r0 [4, 1000, 1001, 1002, 1003, 1004, 1005, 1006, 1007, 1008, 1009]) (.ret)))
abbrev L_laws_markClueS_0 (P : Program) (Q : Env → Prop) (E : Env) : Prop := RunQ P Q (.code c_laws_markClueS_b0 :: .lp c_laws_markClueS_b0 [0, 1, 5, 1000, 1001, 1002, 1003, 1004, 1005, 1006, 1007, 1008, 1009] :: [.blk 0, .code (.seq (.reg none c_laws_markClueS_r0 [4, 1000, 1001, 1002, 1003, 1004, 1005, 1006, 1007, 1008, 1009]) (.ret))]) E
theorem k_laws_markClueS : chkF Tryz.prog Tryz.f160 c_laws_markClueS [.tmp 4] = true := by kernel_rfl
theorem S_laws_markClueS {args : List AV} {r : List RV} (hs : sizeXs Tryz.prog Tryz.f160.results.toList r = true) (hn : args.length ≤ 27) (h : Run Tryz.prog [.tmp 4] [.code c_laws_markClueS] (argEnv args 0) r) : CallsOK Tryz.prog F_laws_markClueS args r := callsOK Tryz.func160 k_laws_markClueS hs hn h
theorem SH_laws_markClueS {args : (Nat → Value) → List AV} {res : (Nat → Value) → List RV} {hin hout : List HT} (ni no : List Nat) (hs : ∀ v, sizeXs Tryz.prog Tryz.f160.results.toList (res v) = true) (hn : ∀ v, (args v).length ≤ 27 ∧ ∀ n ∈ ni, (args v).length ≤ n) (hni : ni.Nodup) (hno : no.Nodup) (h : ∀ u : Gh, RunQ Tryz.prog (fun E => ∃ u' : Gh, resP E [.tmp 4] = some (res u'.1) ∧ (∀ i, i < hin.length → u'.1 i = u.1 i) ∧ GetH E (fun i => decide (hin.length ≤ i)) u' no hout 0) [.code c_laws_markClueS] (envH (fun _ => false) u ni hin 0 ++ argEnv (args u.1) 0)) : CallsH Tryz.prog F_laws_markClueS hin hout args res := callsH_of_run ni no Tryz.func160 k_laws_markClueS hs hn hni hno h

-- loop.example/g03003/laws.heldClueS
def c_laws_heldClueS_r0 : List GOp := [⟨some 30, none, .mv (.t 1)⟩,
  ⟨some 4, none, .asg true (.t 30)⟩]
def c_laws_heldClueS_r1 : List GOp := [⟨some 10, none, .mv (.t 5)⟩,
  ⟨some 11, none, .bin .add (.t 10) (.c (.int .i64 1))⟩,
  ⟨some 5, none, .asg true (.t 11)⟩]
def c_laws_heldClueS_r2 : List GOp := [⟨some 4, none, .asg false (.c (.int .i64 (-1)))⟩]
def c_laws_heldClueS_r3 : List GOp := [⟨some 28, none, .mv (.t 1)⟩,
  ⟨some 29, none, .bin .lss (.t 28) (.c (.int .i64 0))⟩]
def c_laws_heldClueS_r4 : List GOp := [⟨some 21, none, .mv (.t 0)⟩,
  ⟨some 22, none, .mv (.t 5)⟩,
  ⟨some 23, none, .idx 2 (.t 21) (.t 22)⟩,
  ⟨some 24, none, .fld (.t 23) 1⟩,
  ⟨some 25, none, .ld (.t 24)⟩,
  ⟨some 26, none, .mv (.t 1)⟩,
  ⟨some 27, none, .call F_laws_heldStepS [.t 25, .t 26]⟩,
  ⟨some 1, none, .asg true (.t 27)⟩]
def c_laws_heldClueS_r5 : List GOp := [⟨some 19, none, .mv (.t 1)⟩,
  ⟨some 20, none, .bin .add (.t 19) (.c (.int .i64 1))⟩,
  ⟨some 1, none, .asg true (.t 20)⟩]
def c_laws_heldClueS_r6 : List GOp := [⟨some 4, none, .asg false (.c (.int .i64 (-1)))⟩]
def c_laws_heldClueS_r7 : List GOp := [⟨some 12, none, .mv (.t 0)⟩,
  ⟨some 13, none, .mv (.t 5)⟩,
  ⟨some 14, none, .idx 2 (.t 12) (.t 13)⟩,
  ⟨some 15, none, .fld (.t 14) 0⟩,
  ⟨some 16, none, .ld (.t 15)⟩,
  ⟨some 17, none, .mv (.t 1)⟩,
  ⟨some 18, none, .bin .neq (.t 16) (.t 17)⟩]
def c_laws_heldClueS_r8 : List GOp := [⟨some 6, none, .mv (.t 5)⟩,
  ⟨some 7, none, .mv (.t 0)⟩,
  ⟨some 8, none, .len (.t 7)⟩,
  ⟨some 9, none, .bin .lss (.t 6) (.t 8)⟩]
def c_laws_heldClueS_b0 : CC := .seq (.seq (.reg none c_laws_heldClueS_r8 [0, 1, 5, 9]) (.cnd (.t 9) (.skip) (.exit 0))) (.seq (.blk 1 (.seq (.seq (.reg none c_laws_heldClueS_r7 [0, 1, 5, 18]) (.cnd (.t 18) (.seq (.reg none c_laws_heldClueS_r6 [4]) (.ret)) (.skip))) (.seq (.reg none c_laws_heldClueS_r5 [0, 1, 5]) (.seq (.reg none c_laws_heldClueS_r4 [0, 1, 5]) (.seq (.reg none c_laws_heldClueS_r3 [0, 1, 5, 29]) (.cnd (.t 29) (.seq (.reg none c_laws_heldClueS_r2 [4]) (.ret)) (.skip))))))) (.reg none c_laws_heldClueS_r1 [0, 1, 5]))
def c_laws_heldClueS_r9 : List GOp := [⟨some 5, none, .asg false (.c (.int .i64 0))⟩]
def c_laws_heldClueS_r10 : List GOp := [⟨some 4, none, .asg false (.c (.int .i64 0))⟩]
def c_laws_heldClueS : CC := .seq (.reg none c_laws_heldClueS_r10 [0, 1]) (.seq (.seq (.reg none c_laws_heldClueS_r9 [0, 1, 5]) (.blk 0 (.loop c_laws_heldClueS_b0 [0, 1, 5]))) (.seq (.reg none c_laws_heldClueS_r0 [4]) (.ret)))
abbrev L_laws_heldClueS_0 (P : Program) (E : Env) (r : List RV) : Prop := Run P [.tmp 4] (.code c_laws_heldClueS_b0 :: .lp c_laws_heldClueS_b0 [0, 1, 5] :: [.blk 0, .code (.seq (.reg none c_laws_heldClueS_r0 [4]) (.ret))]) E r
theorem k_laws_heldClueS : chkF Tryz.prog Tryz.f162 c_laws_heldClueS [.tmp 4] = true := by kernel_rfl
theorem S_laws_heldClueS {args : List AV} {r : List RV} (hs : sizeXs Tryz.prog Tryz.f162.results.toList r = true) (hn : args.length ≤ 31) (h : Run Tryz.prog [.tmp 4] [.code c_laws_heldClueS] (argEnv args 0) r) : CallsOK Tryz.prog F_laws_heldClueS args r := callsOK Tryz.func162 k_laws_heldClueS hs hn h

-- loop.example/g03003/laws.eqStep
def c_laws_eqStep_r0 : List GOp := [⟨some 4, none, .asg false (.c (.bool true))⟩]
def c_laws_eqStep_r1 : List GOp := [⟨some 4, none, .asg false (.c (.bool false))⟩]
def c_laws_eqStep_r2 : List GOp := [⟨some 20, none, .fld (.t 2) 3⟩,
  ⟨some 21, none, .ld (.t 20)⟩,
  ⟨some 22, none, .fld (.t 3) 3⟩,
  ⟨some 23, none, .ld (.t 22)⟩,
  ⟨some 24, none, .bin .neq (.t 21) (.t 23)⟩]
def c_laws_eqStep_r3 : List GOp := [⟨some 4, none, .asg false (.c (.bool false))⟩]
def c_laws_eqStep_r4 : List GOp := [⟨some 15, none, .fld (.t 2) 2⟩,
  ⟨some 16, none, .ld (.t 15)⟩,
  ⟨some 17, none, .fld (.t 3) 2⟩,
  ⟨some 18, none, .ld (.t 17)⟩,
  ⟨some 19, none, .bin .neq (.t 16) (.t 18)⟩]
def c_laws_eqStep_r5 : List GOp := [⟨some 4, none, .asg false (.c (.bool false))⟩]
def c_laws_eqStep_r6 : List GOp := [⟨some 10, none, .fld (.t 2) 1⟩,
  ⟨some 11, none, .ld (.t 10)⟩,
  ⟨some 12, none, .fld (.t 3) 1⟩,
  ⟨some 13, none, .ld (.t 12)⟩,
  ⟨some 14, none, .bin .neq (.t 11) (.t 13)⟩]
def c_laws_eqStep_r7 : List GOp := [⟨some 4, none, .asg false (.c (.bool false))⟩]
def c_laws_eqStep_r8 : List GOp := [⟨some 5, none, .fld (.t 2) 0⟩,
  ⟨some 6, none, .ld (.t 5)⟩,
  ⟨some 7, none, .fld (.t 3) 0⟩,
  ⟨some 8, none, .ld (.t 7)⟩,
  ⟨some 9, none, .bin .neq (.t 6) (.t 8)⟩]
def c_laws_eqStep_r9 : List GOp := [⟨some 2, none, .box (.t 0)⟩,
  ⟨some 3, none, .box (.t 1)⟩,
  ⟨some 4, none, .asg false (.c (.bool false))⟩]
def c_laws_eqStep : CC := .seq (.reg none c_laws_eqStep_r9 [2, 3]) (.seq (.seq (.reg none c_laws_eqStep_r8 [2, 3, 9]) (.cnd (.t 9) (.seq (.reg none c_laws_eqStep_r7 [4]) (.ret)) (.skip))) (.seq (.seq (.reg none c_laws_eqStep_r6 [2, 3, 14]) (.cnd (.t 14) (.seq (.reg none c_laws_eqStep_r5 [4]) (.ret)) (.skip))) (.seq (.seq (.reg none c_laws_eqStep_r4 [2, 3, 19]) (.cnd (.t 19) (.seq (.reg none c_laws_eqStep_r3 [4]) (.ret)) (.skip))) (.seq (.seq (.reg none c_laws_eqStep_r2 [24]) (.cnd (.t 24) (.seq (.reg none c_laws_eqStep_r1 [4]) (.ret)) (.skip))) (.seq (.reg none c_laws_eqStep_r0 [4]) (.ret))))))
theorem k_laws_eqStep : chkF Tryz.prog Tryz.f182 c_laws_eqStep [.tmp 4] = true := by kernel_rfl
theorem S_laws_eqStep {args : List AV} {r : List RV} (hs : sizeXs Tryz.prog Tryz.f182.results.toList r = true) (hn : args.length ≤ 25) (h : Run Tryz.prog [.tmp 4] [.code c_laws_eqStep] (argEnv args 0) r) : CallsOK Tryz.prog F_laws_eqStep args r := callsOK Tryz.func182 k_laws_eqStep hs hn h

-- loop.example/g03003/spec.IsWord
def c_spec_IsWord_r0 : List GOp := [⟨some 2, none, .asg false (.c (.bool true))⟩]
def c_spec_IsWord_r1 : List GOp := [⟨some 12, none, .mv (.t 3)⟩,
  ⟨some 13, none, .bin .add (.t 12) (.c (.int .i64 1))⟩,
  ⟨some 3, none, .asg true (.t 13)⟩]
def c_spec_IsWord_r2 : List GOp := [⟨some 2, none, .asg false (.c (.bool false))⟩]
def c_spec_IsWord_r3 : List GOp := [⟨some 14, none, .mv (.t 0)⟩,
  ⟨some 15, none, .mv (.t 3)⟩,
  ⟨some 16, none, .sidx (.t 14) (.t 15)⟩,
  ⟨some 17, none, .bin .lss (.t 16) (.c (.int .u8 97))⟩,
  ⟨some 18, none, .mv (.t 17)⟩,
  ⟨some 19, some (18, false), .mv (.t 0)⟩,
  ⟨some 20, some (18, false), .mv (.t 3)⟩,
  ⟨some 21, some (18, false), .sidx (.t 19) (.t 20)⟩,
  ⟨some 22, some (18, false), .bin .gtr (.t 21) (.c (.int .u8 122))⟩,
  ⟨some 23, none, .pick (.t 18) (.c (.bool true)) (.t 22)⟩]
def c_spec_IsWord_r4 : List GOp := [⟨some 8, none, .mv (.t 3)⟩,
  ⟨some 9, none, .mv (.t 0)⟩,
  ⟨some 10, none, .slen (.t 9)⟩,
  ⟨some 11, none, .bin .lss (.t 8) (.t 10)⟩]
def c_spec_IsWord_b0 : CC := .seq (.seq (.reg none c_spec_IsWord_r4 [0, 3, 11]) (.cnd (.t 11) (.skip) (.exit 0))) (.seq (.blk 1 (.seq (.reg none c_spec_IsWord_r3 [0, 3, 23]) (.cnd (.t 23) (.seq (.reg none c_spec_IsWord_r2 [2]) (.ret)) (.skip)))) (.reg none c_spec_IsWord_r1 [0, 3]))
def c_spec_IsWord_r5 : List GOp := [⟨some 3, none, .asg false (.c (.int .i64 0))⟩]
def c_spec_IsWord_r6 : List GOp := [⟨some 2, none, .asg false (.c (.bool false))⟩]
def c_spec_IsWord_r7 : List GOp := [⟨some 4, none, .mv (.t 0)⟩,
  ⟨some 5, none, .slen (.t 4)⟩,
  ⟨some 6, none, .call F_spec_l1In [.t 5, .c (.int .i64 1), .c (.int .i64 8)]⟩,
  ⟨some 7, none, .not (.t 6)⟩]
def c_spec_IsWord_r8 : List GOp := [⟨some 2, none, .asg false (.c (.bool false))⟩]
def c_spec_IsWord : CC := .seq (.reg none c_spec_IsWord_r8 [0]) (.seq (.seq (.reg none c_spec_IsWord_r7 [0, 7]) (.cnd (.t 7) (.seq (.reg none c_spec_IsWord_r6 [2]) (.ret)) (.skip))) (.seq (.seq (.reg none c_spec_IsWord_r5 [0, 3]) (.blk 0 (.loop c_spec_IsWord_b0 [0, 3]))) (.seq (.reg none c_spec_IsWord_r0 [2]) (.ret))))
abbrev L_spec_IsWord_0 (P : Program) (E : Env) (r : List RV) : Prop := Run P [.tmp 2] (.code c_spec_IsWord_b0 :: .lp c_spec_IsWord_b0 [0, 3] :: [.blk 0, .code (.seq (.reg none c_spec_IsWord_r0 [2]) (.ret))]) E r
theorem k_spec_IsWord : chkF Tryz.prog Tryz.f184 c_spec_IsWord [.tmp 2] = true := by kernel_rfl
theorem S_spec_IsWord {args : List AV} {r : List RV} (hs : sizeXs Tryz.prog Tryz.f184.results.toList r = true) (hn : args.length ≤ 24) (h : Run Tryz.prog [.tmp 2] [.code c_spec_IsWord] (argEnv args 0) r) : CallsOK Tryz.prog F_spec_IsWord args r := callsOK Tryz.func184 k_spec_IsWord hs hn h

-- loop.example/g03003/impl.IsWord
def c_impl_IsWord_r0 : List GOp := [⟨some 2, none, .asg false (.c (.bool true))⟩]
def c_impl_IsWord_r1 : List GOp := [⟨some 18, none, .bin .add (.t 10) (.c (.int .i64 1))⟩,
  ⟨some 10, none, .mv (.t 18)⟩]
def c_impl_IsWord_r2 : List GOp := [⟨some 2, none, .asg false (.c (.bool false))⟩]
def c_impl_IsWord_r3 : List GOp := [⟨some 13, none, .mv (.t 0)⟩,
  ⟨some 14, none, .mv (.t 3)⟩,
  ⟨some 15, none, .sidx (.t 13) (.t 14)⟩,
  ⟨some 16, none, .call F_impl_isLetter [.t 15]⟩,
  ⟨some 17, none, .not (.t 16)⟩]
def c_impl_IsWord_r4 : List GOp := [⟨some 12, none, .mv (.t 10)⟩,
  ⟨some 3, none, .asg true (.t 12)⟩]
def c_impl_IsWord_r5 : List GOp := [⟨some 11, none, .bin .lss (.t 10) (.t 9)⟩]
def c_impl_IsWord_b0 : CC := .seq (.reg none c_impl_IsWord_r5 [0, 9, 10, 11]) (.seq (.cnd (.t 11) (.skip) (.exit 0)) (.seq (.blk 1 (.seq (.reg none c_impl_IsWord_r4 [0, 3, 9, 10]) (.seq (.reg none c_impl_IsWord_r3 [0, 9, 10, 17]) (.cnd (.t 17) (.seq (.reg none c_impl_IsWord_r2 [2]) (.ret)) (.skip))))) (.reg none c_impl_IsWord_r1 [0, 9, 10])))
def c_impl_IsWord_r6 : List GOp := [⟨some 8, none, .mv (.t 0)⟩,
  ⟨some 9, none, .slen (.t 8)⟩,
  ⟨some 10, none, .mv (.c (.int .i64 0))⟩]
def c_impl_IsWord_r7 : List GOp := [⟨some 2, none, .asg false (.c (.bool false))⟩]
def c_impl_IsWord_r8 : List GOp := [⟨some 4, none, .mv (.t 0)⟩,
  ⟨some 5, none, .slen (.t 4)⟩,
  ⟨some 6, none, .call F_impl_InRange [.t 5, .c (.int .i64 1), .c (.int .i64 8)]⟩,
  ⟨some 7, none, .not (.t 6)⟩]
def c_impl_IsWord_r9 : List GOp := [⟨some 2, none, .asg false (.c (.bool false))⟩]
def c_impl_IsWord : CC := .seq (.reg none c_impl_IsWord_r9 [0]) (.seq (.seq (.reg none c_impl_IsWord_r8 [0, 7]) (.cnd (.t 7) (.seq (.reg none c_impl_IsWord_r7 [2]) (.ret)) (.skip))) (.seq (.seq (.reg none c_impl_IsWord_r6 [0, 9, 10]) (.blk 0 (.loop c_impl_IsWord_b0 [0, 9, 10]))) (.seq (.reg none c_impl_IsWord_r0 [2]) (.ret))))
abbrev L_impl_IsWord_0 (P : Program) (E : Env) (r : List RV) : Prop := Run P [.tmp 2] (.code c_impl_IsWord_b0 :: .lp c_impl_IsWord_b0 [0, 9, 10] :: [.blk 0, .code (.seq (.reg none c_impl_IsWord_r0 [2]) (.ret))]) E r
theorem k_impl_IsWord : chkF Tryz.prog Tryz.f187 c_impl_IsWord [.tmp 2] = true := by kernel_rfl
theorem S_impl_IsWord {args : List AV} {r : List RV} (hs : sizeXs Tryz.prog Tryz.f187.results.toList r = true) (hn : args.length ≤ 19) (h : Run Tryz.prog [.tmp 2] [.code c_impl_IsWord] (argEnv args 0) r) : CallsOK Tryz.prog F_impl_IsWord args r := callsOK Tryz.func187 k_impl_IsWord hs hn h

-- loop.example/g03003/spec.AreCorrections
def c_spec_AreCorrections_r0 : List GOp := [⟨some 52, none, .mv (.t 0)⟩,
  ⟨some 53, none, .len (.t 52)⟩,
  ⟨some 54, none, .bin .leq (.t 53) (.c (.int .i64 12))⟩,
  ⟨some 2, none, .asg true (.t 54)⟩]
def c_spec_AreCorrections_r1 : List GOp := [⟨some 9, none, .mv (.t 3)⟩,
  ⟨some 10, none, .bin .add (.t 9) (.c (.int .i64 1))⟩,
  ⟨some 3, none, .asg true (.t 10)⟩]
def c_spec_AreCorrections_r2 : List GOp := [⟨some 2, none, .asg false (.c (.bool false))⟩]
def c_spec_AreCorrections_r3 : List GOp := [⟨some 15, none, .fld (.t 4) 0⟩,
  ⟨some 16, none, .ld (.t 15)⟩,
  ⟨some 17, none, .call F_spec_l1In [.t 16, .c (.int .i64 1), .c (.int .i64 999)]⟩,
  ⟨some 18, none, .not (.t 17)⟩,
  ⟨some 19, none, .mv (.t 18)⟩,
  ⟨some 20, some (19, false), .fld (.t 4) 1⟩,
  ⟨some 21, some (19, false), .ld (.t 20)⟩,
  ⟨some 22, some (19, false), .call F_spec_l1In [.t 21, .c (.int .i64 0), .c (.int .i64 99)]⟩,
  ⟨some 23, some (19, false), .not (.t 22)⟩,
  ⟨some 24, none, .pick (.t 19) (.c (.bool true)) (.t 23)⟩,
  ⟨some 25, none, .mv (.t 24)⟩,
  ⟨some 26, some (25, false), .fld (.t 4) 2⟩,
  ⟨some 27, some (25, false), .lda 2 (.t 26)⟩,
  ⟨some 28, some (25, false), .call F_spec_IsClue [.t 27]⟩,
  ⟨some 29, some (25, false), .not (.t 28)⟩,
  ⟨some 30, none, .pick (.t 25) (.c (.bool true)) (.t 29)⟩,
  ⟨some 31, none, .mv (.t 30)⟩,
  ⟨some 32, some (31, false), .fld (.t 4) 4⟩,
  ⟨some 33, some (31, false), .ld (.t 32)⟩,
  ⟨some 34, some (31, false), .call F_spec_l1In [.t 33, .c (.int .i64 0), .c (.int .i64 1000)]⟩,
  ⟨some 35, some (31, false), .not (.t 34)⟩,
  ⟨some 36, none, .pick (.t 31) (.c (.bool true)) (.t 35)⟩,
  ⟨some 37, none, .mv (.t 36)⟩,
  ⟨some 38, some (37, false), .mv (.t 3)⟩,
  ⟨some 39, some (37, false), .bin .gtr (.t 38) (.c (.int .i64 0))⟩,
  ⟨some 40, some (37, false), .mv (.t 39)⟩,
  ⟨some 41, some (40, true), .mv (.t 0)⟩,
  ⟨some 42, some (40, true), .mv (.t 3)⟩,
  ⟨some 43, some (40, true), .bin .sub (.t 42) (.c (.int .i64 1))⟩,
  ⟨some 44, some (40, true), .idx 5 (.t 41) (.t 43)⟩,
  ⟨some 45, some (40, true), .fld (.t 44) 4⟩,
  ⟨some 46, some (40, true), .ld (.t 45)⟩,
  ⟨some 47, some (40, true), .fld (.t 4) 4⟩,
  ⟨some 48, some (40, true), .ld (.t 47)⟩,
  ⟨some 49, some (40, true), .bin .gtr (.t 46) (.t 48)⟩,
  ⟨some 50, some (37, false), .pick (.t 40) (.t 49) (.c (.bool false))⟩,
  ⟨some 51, none, .pick (.t 37) (.c (.bool true)) (.t 50)⟩]
def c_spec_AreCorrections_r4 : List GOp := [⟨some 11, none, .mv (.t 0)⟩,
  ⟨some 12, none, .mv (.t 3)⟩,
  ⟨some 13, none, .idx 5 (.t 11) (.t 12)⟩,
  ⟨some 14, none, .lda 5 (.t 13)⟩,
  ⟨some 4, none, .alc [.int .i64 0, .int .i64 0, .int .i64 0, .sl 4 [], .int .i64 0]⟩,
  ⟨none, none, .sto 5 (.t 4) (.t 14)⟩]
def c_spec_AreCorrections_r5 : List GOp := [⟨some 5, none, .mv (.t 3)⟩,
  ⟨some 6, none, .mv (.t 0)⟩,
  ⟨some 7, none, .len (.t 6)⟩,
  ⟨some 8, none, .bin .lss (.t 5) (.t 7)⟩]
def c_spec_AreCorrections_b0 : CC := .seq (.seq (.reg none c_spec_AreCorrections_r5 [0, 3, 8]) (.cnd (.t 8) (.skip) (.exit 0))) (.seq (.blk 1 (.seq (.reg none c_spec_AreCorrections_r4 [0, 3, 4]) (.seq (.reg (some (37, [[], [0], [0, 1], [0, 1, 2], [0, 1, 2, 3], [0, 1, 2, 3, 4], [0, 1, 2, 3, 4, 5], [0, 1, 2, 3, 4, 5, 6], [0, 1, 2, 3, 4, 5, 6, 7], [0, 1, 2, 3, 4, 5, 6, 7, 8], [0, 1, 2, 3, 4, 5, 6, 7, 8, 9], [0, 1, 2, 3, 4, 5, 6, 7, 8, 9, 10], [0, 1, 2, 3, 4, 5, 6, 7, 8, 9, 10, 11], [0, 1, 2, 3, 4, 5, 6, 7, 8, 9, 10, 11, 12], [0, 1, 2, 3, 4, 5, 6, 7, 8, 9, 10, 11, 12, 13], [0, 1, 2, 3, 4, 5, 6, 7, 8, 9, 10, 11, 12, 13, 14], [0, 1, 2, 3, 4, 5, 6, 7, 8, 9, 10, 11, 12, 13, 14, 15], [0, 1, 2, 3, 4, 5, 6, 7, 8, 9, 10, 11, 12, 13, 14, 15, 16], [0, 1, 2, 3, 4, 5, 6, 7, 8, 9, 10, 11, 12, 13, 14, 15, 16, 17], [0, 1, 2, 3, 4, 5, 6, 7, 8, 9, 10, 11, 12, 13, 14, 15, 16, 17, 18], [0, 1, 2, 3, 4, 5, 6, 7, 8, 9, 10, 11, 12, 13, 14, 15, 16, 17, 18, 19], [0, 1, 2, 3, 4, 5, 6, 7, 8, 9, 10, 11, 12, 13, 14, 15, 16, 17, 18, 19, 20], [0, 1, 2, 3, 4, 5, 6, 7, 8, 9, 10, 11, 12, 13, 14, 15, 16, 17, 18, 19, 20, 21], [0, 1, 2, 3, 4, 5, 6, 7, 8, 9, 10, 11, 12, 13, 14, 15, 16, 17, 18, 19, 20, 21, 22], [0, 1, 2, 3, 4, 5, 6, 7, 8, 9, 10, 11, 12, 13, 14, 15, 16, 17, 18, 19, 20, 21, 22, 23], [0, 1, 2, 3, 4, 5, 6, 7, 8, 9, 10, 11, 12, 13, 14, 15, 16, 17, 18, 19, 20, 21, 22, 23, 24], [0, 1, 2, 3, 4, 5, 6, 7, 8, 9, 10, 11, 12, 13, 14, 15, 16, 17, 18, 19, 20, 21, 22, 23, 24, 25], [0, 1, 2, 3, 4, 5, 6, 7, 8, 9, 10, 11, 12, 13, 14, 15, 16, 17, 18, 19, 20, 21, 22, 23, 24, 25], [0, 1, 2, 3, 4, 5, 6, 7, 8, 9, 10, 11, 12, 13, 14, 15, 16, 17, 18, 19, 20, 21, 22, 23, 24, 25, 27], [0, 1, 2, 3, 4, 5, 6, 7, 8, 9, 10, 11, 12, 13, 14, 15, 16, 17, 18, 19, 20, 21, 22, 23, 24, 25, 26, 27, 28], [0, 1, 2, 3, 4, 5, 6, 7, 8, 9, 10, 11, 12, 13, 14, 15, 16, 17, 18, 19, 20, 21, 22, 23, 24, 25, 26, 27, 28, 29], [0, 1, 2, 3, 4, 5, 6, 7, 8, 9, 10, 11, 12, 13, 14, 15, 16, 17, 18, 19, 20, 21, 22, 23, 24, 25, 26, 27, 28, 29, 30], [0, 1, 2, 3, 4, 5, 6, 7, 8, 9, 10, 11, 12, 13, 14, 15, 16, 17, 18, 19, 20, 21, 22, 23, 24, 25], [0, 1, 2, 3, 4, 5, 6, 7, 8, 9, 10, 11, 12, 13, 14, 15, 16, 17, 18, 19, 20, 21, 22, 23, 24, 25, 32], [0, 1, 2, 3, 4, 5, 6, 7, 8, 9, 10, 11, 12, 13, 14, 15, 16, 17, 18, 19, 20, 21, 22, 23, 24, 25, 26, 27, 28, 29, 30, 31, 32, 33], [0, 1, 2, 3, 4, 5, 6, 7, 8, 9, 10, 11, 12, 13, 14, 15, 16, 17, 18, 19, 20, 21, 22, 23, 24, 25, 26, 27, 28, 29, 30, 31, 32, 33, 34], [0, 1, 2, 3, 4, 5, 6, 7, 8, 9, 10, 11, 12, 13, 14, 15, 16, 17, 18, 19, 20, 21, 22, 23, 24, 25, 26, 27, 28, 29, 30, 31, 32, 33, 34, 35]])) c_spec_AreCorrections_r3 [0, 3, 51]) (.cnd (.t 51) (.seq (.reg none c_spec_AreCorrections_r2 [2]) (.ret)) (.skip))))) (.reg none c_spec_AreCorrections_r1 [0, 3]))
def c_spec_AreCorrections_r6 : List GOp := [⟨some 3, none, .asg false (.c (.int .i64 0))⟩]
def c_spec_AreCorrections_r7 : List GOp := [⟨some 2, none, .asg false (.c (.bool false))⟩]
def c_spec_AreCorrections : CC := .seq (.reg none c_spec_AreCorrections_r7 [0]) (.seq (.seq (.reg none c_spec_AreCorrections_r6 [0, 3]) (.blk 0 (.loop c_spec_AreCorrections_b0 [0, 3]))) (.seq (.reg none c_spec_AreCorrections_r0 [2]) (.ret)))
abbrev L_spec_AreCorrections_0 (P : Program) (E : Env) (r : List RV) : Prop := Run P [.tmp 2] (.code c_spec_AreCorrections_b0 :: .lp c_spec_AreCorrections_b0 [0, 3] :: [.blk 0, .code (.seq (.reg none c_spec_AreCorrections_r0 [2]) (.ret))]) E r
theorem k_spec_AreCorrections : chkF Tryz.prog Tryz.f206 c_spec_AreCorrections [.tmp 2] = true := by kernel_rfl
theorem S_spec_AreCorrections {args : List AV} {r : List RV} (hs : sizeXs Tryz.prog Tryz.f206.results.toList r = true) (hn : args.length ≤ 55) (h : Run Tryz.prog [.tmp 2] [.code c_spec_AreCorrections] (argEnv args 0) r) : CallsOK Tryz.prog F_spec_AreCorrections args r := callsOK Tryz.func206 k_spec_AreCorrections hs hn h

-- loop.example/g03003/spec.l21Clues
def c_spec_l21Clues_r0 : List GOp := [⟨some 20, none, .mv (.t 3)⟩,
  ⟨some 2, none, .asg true (.t 20)⟩]
def c_spec_l21Clues_r1 : List GOp := [⟨some 10, none, .mv (.t 4)⟩,
  ⟨some 11, none, .bin .add (.t 10) (.c (.int .i64 1))⟩,
  ⟨some 4, none, .asg true (.t 11)⟩]
def c_spec_l21Clues_r2 : List GOp := [⟨some 12, none, .mv (.t 3)⟩,
  ⟨some 13, none, .mv (.t 0)⟩,
  ⟨some 14, none, .mv (.t 4)⟩,
  ⟨some 15, none, .idx 2 (.t 13) (.t 14)⟩,
  ⟨some 16, none, .lda 2 (.t 15)⟩,
  ⟨some 17, none, .call F_spec_l18Copy [.t 16]⟩,
  ⟨some 18, none, .bsl 2 [.t 17]⟩,
  ⟨some 19, none, .app T_impl_Clue 2 32 (.t 12) (.t 18)⟩,
  ⟨some 3, none, .asg true (.t 19)⟩]
def c_spec_l21Clues_r3 : List GOp := [⟨some 6, none, .mv (.t 4)⟩,
  ⟨some 7, none, .mv (.t 0)⟩,
  ⟨some 8, none, .len (.t 7)⟩,
  ⟨some 9, none, .bin .lss (.t 6) (.t 8)⟩]
def c_spec_l21Clues_b0 : CC := .seq (.seq (.reg none c_spec_l21Clues_r3 [0, 3, 4, 9]) (.cnd (.t 9) (.skip) (.exit 0))) (.seq (.blk 1 (.reg none c_spec_l21Clues_r2 [0, 3, 4])) (.reg none c_spec_l21Clues_r1 [0, 3, 4]))
def c_spec_l21Clues_r4 : List GOp := [⟨some 4, none, .asg false (.c (.int .i64 0))⟩]
def c_spec_l21Clues_r5 : List GOp := [⟨some 5, none, .bslo T_impl_Clue 2 32 []⟩,
  ⟨some 3, none, .asg true (.t 5)⟩]
def c_spec_l21Clues_r6 : List GOp := [⟨some 2, none, .nilo T_impl_Clue 2 32⟩]
def c_spec_l21Clues : CC := .seq (.reg none c_spec_l21Clues_r6 [0]) (.seq (.reg none c_spec_l21Clues_r5 [0, 3]) (.seq (.seq (.reg none c_spec_l21Clues_r4 [0, 3, 4]) (.blk 0 (.loop c_spec_l21Clues_b0 [0, 3, 4]))) (.seq (.reg none c_spec_l21Clues_r0 [2]) (.ret))))
abbrev L_spec_l21Clues_0 (P : Program) (E : Env) (r : List RV) : Prop := Run P [.tmp 2] (.code c_spec_l21Clues_b0 :: .lp c_spec_l21Clues_b0 [0, 3, 4] :: [.blk 0, .code (.seq (.reg none c_spec_l21Clues_r0 [2]) (.ret))]) E r
theorem k_spec_l21Clues : chkF Tryz.prog Tryz.f225 c_spec_l21Clues [.tmp 2] = true := by kernel_rfl
theorem S_spec_l21Clues {args : List AV} {r : List RV} (hs : sizeXs Tryz.prog Tryz.f225.results.toList r = true) (hn : args.length ≤ 21) (h : Run Tryz.prog [.tmp 2] [.code c_spec_l21Clues] (argEnv args 0) r) : CallsOK Tryz.prog F_spec_l21Clues args r := callsOK Tryz.func225 k_spec_l21Clues hs hn h

-- loop.example/g03003/spec.AreUses
def c_spec_AreUses_r0 : List GOp := [⟨some 43, none, .mv (.t 0)⟩,
  ⟨some 44, none, .len (.t 43)⟩,
  ⟨some 45, none, .bin .leq (.t 44) (.c (.int .i64 60))⟩,
  ⟨some 2, none, .asg true (.t 45)⟩]
def c_spec_AreUses_r1 : List GOp := [⟨some 8, none, .mv (.t 3)⟩,
  ⟨some 9, none, .bin .add (.t 8) (.c (.int .i64 1))⟩,
  ⟨some 3, none, .asg true (.t 9)⟩]
def c_spec_AreUses_r2 : List GOp := [⟨some 2, none, .asg false (.c (.bool false))⟩]
def c_spec_AreUses_r3 : List GOp := [⟨some 10, none, .mv (.t 0)⟩,
  ⟨some 11, none, .mv (.t 3)⟩,
  ⟨some 12, none, .idx 2 (.t 10) (.t 11)⟩,
  ⟨some 13, none, .fld (.t 12) 0⟩,
  ⟨some 14, none, .ld (.t 13)⟩,
  ⟨some 15, none, .call F_spec_IsWord [.t 14]⟩,
  ⟨some 16, none, .not (.t 15)⟩,
  ⟨some 17, none, .mv (.t 16)⟩,
  ⟨some 18, some (17, false), .mv (.t 0)⟩,
  ⟨some 19, some (17, false), .mv (.t 3)⟩,
  ⟨some 20, some (17, false), .idx 2 (.t 18) (.t 19)⟩,
  ⟨some 21, some (17, false), .fld (.t 20) 1⟩,
  ⟨some 22, some (17, false), .ld (.t 21)⟩,
  ⟨some 23, some (17, false), .call F_spec_l1In [.t 22, .c (.int .i64 1), .c (.int .i64 999)]⟩,
  ⟨some 24, some (17, false), .not (.t 23)⟩,
  ⟨some 25, none, .pick (.t 17) (.c (.bool true)) (.t 24)⟩,
  ⟨some 26, none, .mv (.t 25)⟩,
  ⟨some 27, some (26, false), .mv (.t 3)⟩,
  ⟨some 28, some (26, false), .bin .gtr (.t 27) (.c (.int .i64 0))⟩,
  ⟨some 29, some (26, false), .mv (.t 28)⟩,
  ⟨some 30, some (29, true), .mv (.t 0)⟩,
  ⟨some 31, some (29, true), .mv (.t 3)⟩,
  ⟨some 32, some (29, true), .bin .sub (.t 31) (.c (.int .i64 1))⟩,
  ⟨some 33, some (29, true), .idx 2 (.t 30) (.t 32)⟩,
  ⟨some 34, some (29, true), .lda 2 (.t 33)⟩,
  ⟨some 35, some (29, true), .mv (.t 0)⟩,
  ⟨some 36, some (29, true), .mv (.t 3)⟩,
  ⟨some 37, some (29, true), .idx 2 (.t 35) (.t 36)⟩,
  ⟨some 38, some (29, true), .lda 2 (.t 37)⟩,
  ⟨some 39, some (29, true), .call F_spec_l29Before [.t 34, .t 38]⟩,
  ⟨some 40, some (29, true), .not (.t 39)⟩,
  ⟨some 41, some (26, false), .pick (.t 29) (.t 40) (.c (.bool false))⟩,
  ⟨some 42, none, .pick (.t 26) (.c (.bool true)) (.t 41)⟩]
def c_spec_AreUses_r4 : List GOp := [⟨some 4, none, .mv (.t 3)⟩,
  ⟨some 5, none, .mv (.t 0)⟩,
  ⟨some 6, none, .len (.t 5)⟩,
  ⟨some 7, none, .bin .lss (.t 4) (.t 6)⟩]
def c_spec_AreUses_b0 : CC := .seq (.seq (.reg none c_spec_AreUses_r4 [0, 3, 7]) (.cnd (.t 7) (.skip) (.exit 0))) (.seq (.blk 1 (.seq (.reg (some (33, [[], [], [0, 1], [0, 1, 2], [0, 1, 2, 3], [0, 1, 2, 3, 4], [0, 1, 2, 3, 4, 5], [0, 1, 2, 3, 4, 5, 6], [0, 1, 2, 3, 4, 5, 6, 7], [0, 1, 2, 3, 4, 5, 6, 7], [0, 1, 2, 3, 4, 5, 6, 7, 8, 9], [0, 1, 2, 3, 4, 5, 6, 7, 8, 9, 10], [0, 1, 2, 3, 4, 5, 6, 7, 8, 9, 10, 11], [0, 1, 2, 3, 4, 5, 6, 7, 8, 9, 10, 11, 12], [0, 1, 2, 3, 4, 5, 6, 7, 8, 9, 10, 11, 12, 13], [0, 1, 2, 3, 4, 5, 6, 7, 8, 9, 10, 11, 12, 13, 14], [0, 1, 2, 3, 4, 5, 6, 7, 8, 9, 10, 11, 12, 13, 14, 15], [0, 1, 2, 3, 4, 5, 6, 7, 8, 9, 10, 11, 12, 13, 14, 15, 16], [0, 1, 2, 3, 4, 5, 6, 7, 8, 9, 10, 11, 12, 13, 14, 15, 16, 17], [0, 1, 2, 3, 4, 5, 6, 7, 8, 9, 10, 11, 12, 13, 14, 15, 16, 17, 18], [0, 1, 2, 3, 4, 5, 6, 7, 8, 9, 10, 11, 12, 13, 14, 15, 16, 17, 18, 19], [0, 1, 2, 3, 4, 5, 6, 7, 8, 9, 10, 11, 12, 13, 14, 15, 16, 17, 18, 19], [0, 1, 2, 3, 4, 5, 6, 7, 8, 9, 10, 11, 12, 13, 14, 15, 16, 17, 18, 19, 21], [0, 1, 2, 3, 4, 5, 6, 7, 8, 9, 10, 11, 12, 13, 14, 15, 16, 17, 18, 19, 20, 21, 22], [0, 1, 2, 3, 4, 5, 6, 7, 8, 9, 10, 11, 12, 13, 14, 15, 16, 17, 18, 19, 20, 21, 22, 23], [0, 1, 2, 3, 4, 5, 6, 7, 8, 9, 10, 11, 12, 13, 14, 15, 16, 17, 18, 19], [0, 1, 2, 3, 4, 5, 6, 7, 8, 9, 10, 11, 12, 13, 14, 15, 16, 17, 18, 19], [0, 1, 2, 3, 4, 5, 6, 7, 8, 9, 10, 11, 12, 13, 14, 15, 16, 17, 18, 19, 25, 26], [0, 1, 2, 3, 4, 5, 6, 7, 8, 9, 10, 11, 12, 13, 14, 15, 16, 17, 18, 19, 25, 26, 27], [0, 1, 2, 3, 4, 5, 6, 7, 8, 9, 10, 11, 12, 13, 14, 15, 16, 17, 18, 19, 20, 21, 22, 23, 24, 25, 26, 27, 28], [0, 1, 2, 3, 4, 5, 6, 7, 8, 9, 10, 11, 12, 13, 14, 15, 16, 17, 18, 19, 20, 21, 22, 23, 24, 25, 26, 27, 28, 29], [0, 1, 2, 3, 4, 5, 6, 7, 8, 9, 10, 11, 12, 13, 14, 15, 16, 17, 18, 19, 20, 21, 22, 23, 24, 25, 26, 27, 28, 29, 30], [0, 1, 2, 3, 4, 5, 6, 7, 8, 9, 10, 11, 12, 13, 14, 15, 16, 17, 18, 19, 20, 21, 22, 23, 24, 25, 26, 27, 28, 29, 30, 31]])) c_spec_AreUses_r3 [0, 3, 42]) (.cnd (.t 42) (.seq (.reg none c_spec_AreUses_r2 [2]) (.ret)) (.skip)))) (.reg none c_spec_AreUses_r1 [0, 3]))
def c_spec_AreUses_r5 : List GOp := [⟨some 3, none, .asg false (.c (.int .i64 0))⟩]
def c_spec_AreUses_r6 : List GOp := [⟨some 2, none, .asg false (.c (.bool false))⟩]
def c_spec_AreUses : CC := .seq (.reg none c_spec_AreUses_r6 [0]) (.seq (.seq (.reg none c_spec_AreUses_r5 [0, 3]) (.blk 0 (.loop c_spec_AreUses_b0 [0, 3]))) (.seq (.reg none c_spec_AreUses_r0 [2]) (.ret)))
abbrev L_spec_AreUses_0 (P : Program) (E : Env) (r : List RV) : Prop := Run P [.tmp 2] (.code c_spec_AreUses_b0 :: .lp c_spec_AreUses_b0 [0, 3] :: [.blk 0, .code (.seq (.reg none c_spec_AreUses_r0 [2]) (.ret))]) E r
theorem k_spec_AreUses : chkF Tryz.prog Tryz.f229 c_spec_AreUses [.tmp 2] = true := by kernel_rfl
theorem S_spec_AreUses {args : List AV} {r : List RV} (hs : sizeXs Tryz.prog Tryz.f229.results.toList r = true) (hn : args.length ≤ 46) (h : Run Tryz.prog [.tmp 2] [.code c_spec_AreUses] (argEnv args 0) r) : CallsOK Tryz.prog F_spec_AreUses args r := callsOK Tryz.func229 k_spec_AreUses hs hn h

-- loop.example/g03003/impl.copyClues
def c_impl_copyClues_r0 : List GOp := [⟨some 18, none, .mv (.t 3)⟩,
  ⟨some 2, none, .asg true (.t 18)⟩]
def c_impl_copyClues_r1 : List GOp := [⟨some 17, none, .bin .add (.t 8) (.c (.int .i64 1))⟩,
  ⟨some 8, none, .mv (.t 17)⟩]
def c_impl_copyClues_r2 : List GOp := [⟨some 12, none, .mv (.t 3)⟩,
  ⟨some 13, none, .lda 2 (.t 5)⟩,
  ⟨some 14, none, .call F_impl_copyClue [.t 13]⟩,
  ⟨some 15, none, .bsl 2 [.t 14]⟩,
  ⟨some 16, none, .app T_impl_Clue 2 32 (.t 12) (.t 15)⟩,
  ⟨some 3, none, .asg true (.t 16)⟩]
def c_impl_copyClues_r3 : List GOp := [⟨some 10, none, .idx 2 (.t 6) (.t 8)⟩,
  ⟨some 11, none, .lda 2 (.t 10)⟩,
  ⟨some 5, none, .alc [.int .i64 0, .sl 4 []]⟩,
  ⟨none, none, .sto 2 (.t 5) (.t 11)⟩]
def c_impl_copyClues_r4 : List GOp := [⟨some 9, none, .bin .lss (.t 8) (.t 7)⟩]
def c_impl_copyClues_b0 : CC := .seq (.reg none c_impl_copyClues_r4 [0, 3, 6, 7, 8, 9, 1000, 1001, 1002, 1003, 1004, 1005, 1006, 1007, 1008, 1009]) (.seq (.cnd (.t 9) (.skip) (.exit 0)) (.seq (.blk 1 (.seq (.reg none c_impl_copyClues_r3 [0, 3, 5, 6, 7, 8, 1000, 1001, 1002, 1003, 1004, 1005, 1006, 1007, 1008, 1009]) (.reg none c_impl_copyClues_r2 [0, 3, 6, 7, 8, 1000, 1001, 1002, 1003, 1004, 1005, 1006, 1007, 1008, 1009]))) (.reg none c_impl_copyClues_r1 [0, 3, 6, 7, 8, 1000, 1001, 1002, 1003, 1004, 1005, 1006, 1007, 1008, 1009])))
def c_impl_copyClues_r5 : List GOp := [⟨some 6, none, .mv (.t 0)⟩,
  ⟨some 7, none, .len (.t 6)⟩,
  ⟨some 8, none, .mv (.c (.int .i64 0))⟩]
def c_impl_copyClues_r6 : List GOp := [⟨some 3, none, .nilo T_impl_Clue 2 32⟩]
def c_impl_copyClues_r7 : List GOp := [⟨some 2, none, .nilo T_impl_Clue 2 32⟩]
def c_impl_copyClues : CC := .seq (.reg none c_impl_copyClues_r7 [0, 1000, 1001, 1002, 1003, 1004, 1005, 1006, 1007, 1008, 1009]) (.seq (.reg none c_impl_copyClues_r6 [0, 3, 1000, 1001, 1002, 1003, 1004, 1005, 1006, 1007, 1008, 1009]) (.seq (.seq (.reg none c_impl_copyClues_r5 [0, 3, 6, 7, 8, 1000, 1001, 1002, 1003, 1004, 1005, 1006, 1007, 1008, 1009]) (.blk 0 (.loop c_impl_copyClues_b0 [0, 3, 6, 7, 8, 1000, 1001, 1002, 1003, 1004, 1005, 1006, 1007, 1008, 1009]))) (.seq (.reg none c_impl_copyClues_r0 [2, 1000, 1001, 1002, 1003, 1004, 1005, 1006, 1007, 1008, 1009]) (.ret))))
abbrev L_impl_copyClues_0 (P : Program) (Q : Env → Prop) (E : Env) : Prop := RunQ P Q (.code c_impl_copyClues_b0 :: .lp c_impl_copyClues_b0 [0, 3, 6, 7, 8, 1000, 1001, 1002, 1003, 1004, 1005, 1006, 1007, 1008, 1009] :: [.blk 0, .code (.seq (.reg none c_impl_copyClues_r0 [2, 1000, 1001, 1002, 1003, 1004, 1005, 1006, 1007, 1008, 1009]) (.ret))]) E
theorem k_impl_copyClues : chkF Tryz.prog Tryz.f231 c_impl_copyClues [.tmp 2] = true := by kernel_rfl
theorem S_impl_copyClues {args : List AV} {r : List RV} (hs : sizeXs Tryz.prog Tryz.f231.results.toList r = true) (hn : args.length ≤ 19) (h : Run Tryz.prog [.tmp 2] [.code c_impl_copyClues] (argEnv args 0) r) : CallsOK Tryz.prog F_impl_copyClues args r := callsOK Tryz.func231 k_impl_copyClues hs hn h
theorem SH_impl_copyClues {args : (Nat → Value) → List AV} {res : (Nat → Value) → List RV} {hin hout : List HT} (ni no : List Nat) (hs : ∀ v, sizeXs Tryz.prog Tryz.f231.results.toList (res v) = true) (hn : ∀ v, (args v).length ≤ 19 ∧ ∀ n ∈ ni, (args v).length ≤ n) (hni : ni.Nodup) (hno : no.Nodup) (h : ∀ u : Gh, RunQ Tryz.prog (fun E => ∃ u' : Gh, resP E [.tmp 2] = some (res u'.1) ∧ (∀ i, i < hin.length → u'.1 i = u.1 i) ∧ GetH E (fun i => decide (hin.length ≤ i)) u' no hout 0) [.code c_impl_copyClues] (envH (fun _ => false) u ni hin 0 ++ argEnv (args u.1) 0)) : CallsH Tryz.prog F_impl_copyClues hin hout args res := callsH_of_run ni no Tryz.func231 k_impl_copyClues hs hn hni hno h

-- loop.example/g03003/spec.BeforeWord
def c_spec_BeforeWord_r0 : List GOp := [⟨some 15, none, .mv (.t 0)⟩,
  ⟨some 16, none, .mv (.t 1)⟩,
  ⟨some 17, none, .bin .lss (.t 15) (.t 16)⟩,
  ⟨some 4, none, .asg true (.t 17)⟩]
def c_spec_BeforeWord_r1 : List GOp := [⟨some 10, none, .mv (.t 0)⟩,
  ⟨some 11, none, .slen (.t 10)⟩,
  ⟨some 12, none, .mv (.t 1)⟩,
  ⟨some 13, none, .slen (.t 12)⟩,
  ⟨some 14, none, .bin .lss (.t 11) (.t 13)⟩,
  ⟨some 4, none, .asg true (.t 14)⟩]
def c_spec_BeforeWord_r2 : List GOp := [⟨some 5, none, .mv (.t 0)⟩,
  ⟨some 6, none, .slen (.t 5)⟩,
  ⟨some 7, none, .mv (.t 1)⟩,
  ⟨some 8, none, .slen (.t 7)⟩,
  ⟨some 9, none, .bin .neq (.t 6) (.t 8)⟩]
def c_spec_BeforeWord_r3 : List GOp := [⟨some 4, none, .asg false (.c (.bool false))⟩]
def c_spec_BeforeWord : CC := .seq (.reg none c_spec_BeforeWord_r3 [0, 1]) (.seq (.seq (.reg none c_spec_BeforeWord_r2 [0, 1, 9]) (.cnd (.t 9) (.seq (.reg none c_spec_BeforeWord_r1 [4]) (.ret)) (.skip))) (.seq (.reg none c_spec_BeforeWord_r0 [4]) (.ret)))
theorem k_spec_BeforeWord : chkF Tryz.prog Tryz.f240 c_spec_BeforeWord [.tmp 4] = true := by kernel_rfl
theorem S_spec_BeforeWord {args : List AV} {r : List RV} (hs : sizeXs Tryz.prog Tryz.f240.results.toList r = true) (hn : args.length ≤ 18) (h : Run Tryz.prog [.tmp 4] [.code c_spec_BeforeWord] (argEnv args 0) r) : CallsOK Tryz.prog F_spec_BeforeWord args r := callsOK Tryz.func240 k_spec_BeforeWord hs hn h

-- loop.example/g03003/spec.l17Before
def c_spec_l17Before_r0 : List GOp := [⟨some 5, none, .fld (.t 2) 0⟩,
  ⟨some 6, none, .ld (.t 5)⟩,
  ⟨some 7, none, .fld (.t 3) 0⟩,
  ⟨some 8, none, .ld (.t 7)⟩,
  ⟨some 9, none, .call F_spec_BeforeWord [.t 6, .t 8]⟩,
  ⟨some 10, none, .mv (.t 9)⟩,
  ⟨some 11, some (10, false), .fld (.t 2) 0⟩,
  ⟨some 12, some (10, false), .ld (.t 11)⟩,
  ⟨some 13, some (10, false), .fld (.t 3) 0⟩,
  ⟨some 14, some (10, false), .ld (.t 13)⟩,
  ⟨some 15, some (10, false), .bin .eql (.t 12) (.t 14)⟩,
  ⟨some 16, some (10, false), .mv (.t 15)⟩,
  ⟨some 17, some (16, true), .fld (.t 2) 1⟩,
  ⟨some 18, some (16, true), .ld (.t 17)⟩,
  ⟨some 19, some (16, true), .fld (.t 3) 1⟩,
  ⟨some 20, some (16, true), .ld (.t 19)⟩,
  ⟨some 21, some (16, true), .bin .lss (.t 18) (.t 20)⟩,
  ⟨some 22, some (10, false), .pick (.t 16) (.t 21) (.c (.bool false))⟩,
  ⟨some 23, none, .pick (.t 10) (.c (.bool true)) (.t 22)⟩,
  ⟨some 4, none, .asg true (.t 23)⟩]
def c_spec_l17Before_r1 : List GOp := [⟨some 2, none, .box (.t 0)⟩,
  ⟨some 3, none, .box (.t 1)⟩,
  ⟨some 4, none, .asg false (.c (.bool false))⟩]
def c_spec_l17Before : CC := .seq (.reg none c_spec_l17Before_r1 [2, 3]) (.seq (.reg none c_spec_l17Before_r0 [4]) (.ret))
theorem k_spec_l17Before : chkF Tryz.prog Tryz.f241 c_spec_l17Before [.tmp 4] = true := by kernel_rfl
theorem S_spec_l17Before {args : List AV} {r : List RV} (hs : sizeXs Tryz.prog Tryz.f241.results.toList r = true) (hn : args.length ≤ 24) (h : Run Tryz.prog [.tmp 4] [.code c_spec_l17Before] (argEnv args 0) r) : CallsOK Tryz.prog F_spec_l17Before args r := callsOK Tryz.func241 k_spec_l17Before hs hn h

-- loop.example/g03003/impl.BeforeWord
def c_impl_BeforeWord_r0 : List GOp := [⟨some 15, none, .mv (.t 0)⟩,
  ⟨some 16, none, .mv (.t 1)⟩,
  ⟨some 17, none, .bin .lss (.t 15) (.t 16)⟩,
  ⟨some 4, none, .asg true (.t 17)⟩]
def c_impl_BeforeWord_r1 : List GOp := [⟨some 10, none, .mv (.t 0)⟩,
  ⟨some 11, none, .slen (.t 10)⟩,
  ⟨some 12, none, .mv (.t 1)⟩,
  ⟨some 13, none, .slen (.t 12)⟩,
  ⟨some 14, none, .bin .lss (.t 11) (.t 13)⟩,
  ⟨some 4, none, .asg true (.t 14)⟩]
def c_impl_BeforeWord_r2 : List GOp := [⟨some 5, none, .mv (.t 0)⟩,
  ⟨some 6, none, .slen (.t 5)⟩,
  ⟨some 7, none, .mv (.t 1)⟩,
  ⟨some 8, none, .slen (.t 7)⟩,
  ⟨some 9, none, .bin .neq (.t 6) (.t 8)⟩]
def c_impl_BeforeWord_r3 : List GOp := [⟨some 4, none, .asg false (.c (.bool false))⟩]
def c_impl_BeforeWord : CC := .seq (.reg none c_impl_BeforeWord_r3 [0, 1]) (.seq (.seq (.reg none c_impl_BeforeWord_r2 [0, 1, 9]) (.cnd (.t 9) (.seq (.reg none c_impl_BeforeWord_r1 [4]) (.ret)) (.skip))) (.seq (.reg none c_impl_BeforeWord_r0 [4]) (.ret)))
theorem k_impl_BeforeWord : chkF Tryz.prog Tryz.f242 c_impl_BeforeWord [.tmp 4] = true := by kernel_rfl
theorem S_impl_BeforeWord {args : List AV} {r : List RV} (hs : sizeXs Tryz.prog Tryz.f242.results.toList r = true) (hn : args.length ≤ 18) (h : Run Tryz.prog [.tmp 4] [.code c_impl_BeforeWord] (argEnv args 0) r) : CallsOK Tryz.prog F_impl_BeforeWord args r := callsOK Tryz.func242 k_impl_BeforeWord hs hn h

-- loop.example/g03003/impl.beforeMeaning
def c_impl_beforeMeaning_r0 : List GOp := [⟨some 15, none, .fld (.t 2) 1⟩,
  ⟨some 16, none, .ld (.t 15)⟩,
  ⟨some 17, none, .fld (.t 3) 1⟩,
  ⟨some 18, none, .ld (.t 17)⟩,
  ⟨some 19, none, .bin .lss (.t 16) (.t 18)⟩,
  ⟨some 4, none, .asg true (.t 19)⟩]
def c_impl_beforeMeaning_r1 : List GOp := [⟨some 10, none, .fld (.t 2) 0⟩,
  ⟨some 11, none, .ld (.t 10)⟩,
  ⟨some 12, none, .fld (.t 3) 0⟩,
  ⟨some 13, none, .ld (.t 12)⟩,
  ⟨some 14, none, .call F_impl_BeforeWord [.t 11, .t 13]⟩,
  ⟨some 4, none, .asg true (.t 14)⟩]
def c_impl_beforeMeaning_r2 : List GOp := [⟨some 5, none, .fld (.t 2) 0⟩,
  ⟨some 6, none, .ld (.t 5)⟩,
  ⟨some 7, none, .fld (.t 3) 0⟩,
  ⟨some 8, none, .ld (.t 7)⟩,
  ⟨some 9, none, .bin .neq (.t 6) (.t 8)⟩]
def c_impl_beforeMeaning_r3 : List GOp := [⟨some 2, none, .box (.t 0)⟩,
  ⟨some 3, none, .box (.t 1)⟩,
  ⟨some 4, none, .asg false (.c (.bool false))⟩]
def c_impl_beforeMeaning : CC := .seq (.reg none c_impl_beforeMeaning_r3 [2, 3]) (.seq (.seq (.reg none c_impl_beforeMeaning_r2 [2, 3, 9]) (.cnd (.t 9) (.seq (.reg none c_impl_beforeMeaning_r1 [4]) (.ret)) (.skip))) (.seq (.reg none c_impl_beforeMeaning_r0 [4]) (.ret)))
theorem k_impl_beforeMeaning : chkF Tryz.prog Tryz.f243 c_impl_beforeMeaning [.tmp 4] = true := by kernel_rfl
theorem S_impl_beforeMeaning {args : List AV} {r : List RV} (hs : sizeXs Tryz.prog Tryz.f243.results.toList r = true) (hn : args.length ≤ 20) (h : Run Tryz.prog [.tmp 4] [.code c_impl_beforeMeaning] (argEnv args 0) r) : CallsOK Tryz.prog F_impl_beforeMeaning args r := callsOK Tryz.func243 k_impl_beforeMeaning hs hn h

-- slices.EqualFunc[[]loop.example/g03003/impl.Clue,[]loop.example/g03003/impl.Clue,loop.example/g03003/impl.Clue,loop.example/g03003/impl.Clue]
def c_slices_EqualFunc_impl_Clue_r0 : List GOp := [⟨some 6, none, .asg false (.c (.bool true))⟩]
def c_slices_EqualFunc_impl_Clue_r1 : List GOp := [⟨some 31, none, .bin .add (.t 17) (.c (.int .i64 1))⟩,
  ⟨some 17, none, .mv (.t 31)⟩]
def c_slices_EqualFunc_impl_Clue_r2 : List GOp := [⟨some 6, none, .asg false (.c (.bool false))⟩]
def c_slices_EqualFunc_impl_Clue_r3 : List GOp := [⟨some 26, none, .mv (.t 2)⟩,
  ⟨some 27, none, .lda 2 (.t 8)⟩,
  ⟨some 28, none, .lda 2 (.t 9)⟩,
  ⟨some 29, none, .callv (.t 26) [.t 27, .t 28]⟩,
  ⟨some 30, none, .not (.t 29)⟩]
def c_slices_EqualFunc_impl_Clue_r4 : List GOp := [⟨some 22, none, .mv (.t 1)⟩,
  ⟨some 23, none, .mv (.t 7)⟩,
  ⟨some 24, none, .idx 2 (.t 22) (.t 23)⟩,
  ⟨some 25, none, .lda 2 (.t 24)⟩,
  ⟨some 9, none, .alc [.int .i64 0, .sl 4 []]⟩,
  ⟨none, none, .sto 2 (.t 9) (.t 25)⟩]
def c_slices_EqualFunc_impl_Clue_r5 : List GOp := [⟨some 19, none, .mv (.t 17)⟩,
  ⟨some 20, none, .idx 2 (.t 15) (.t 17)⟩,
  ⟨some 21, none, .lda 2 (.t 20)⟩,
  ⟨some 8, none, .alc [.int .i64 0, .sl 4 []]⟩,
  ⟨some 7, none, .asg true (.t 19)⟩,
  ⟨none, none, .sto 2 (.t 8) (.t 21)⟩]
def c_slices_EqualFunc_impl_Clue_r6 : List GOp := [⟨some 18, none, .bin .lss (.t 17) (.t 16)⟩]
def c_slices_EqualFunc_impl_Clue_b0 : CC := .seq (.reg none c_slices_EqualFunc_impl_Clue_r6 [0, 1, 2, 15, 16, 17, 18]) (.seq (.cnd (.t 18) (.skip) (.exit 0)) (.seq (.blk 1 (.seq (.reg none c_slices_EqualFunc_impl_Clue_r5 [0, 1, 2, 7, 8, 15, 16, 17]) (.seq (.reg none c_slices_EqualFunc_impl_Clue_r4 [0, 1, 2, 8, 9, 15, 16, 17]) (.seq (.reg none c_slices_EqualFunc_impl_Clue_r3 [0, 1, 2, 15, 16, 17, 30]) (.cnd (.t 30) (.seq (.reg none c_slices_EqualFunc_impl_Clue_r2 [6]) (.ret)) (.skip)))))) (.reg none c_slices_EqualFunc_impl_Clue_r1 [0, 1, 2, 15, 16, 17])))
def c_slices_EqualFunc_impl_Clue_r7 : List GOp := [⟨some 15, none, .mv (.t 0)⟩,
  ⟨some 16, none, .len (.t 15)⟩,
  ⟨some 17, none, .mv (.c (.int .i64 0))⟩]
def c_slices_EqualFunc_impl_Clue_r8 : List GOp := [⟨some 6, none, .asg false (.c (.bool false))⟩]
def c_slices_EqualFunc_impl_Clue_r9 : List GOp := [⟨some 10, none, .mv (.t 0)⟩,
  ⟨some 11, none, .len (.t 10)⟩,
  ⟨some 12, none, .mv (.t 1)⟩,
  ⟨some 13, none, .len (.t 12)⟩,
  ⟨some 14, none, .bin .neq (.t 11) (.t 13)⟩]
def c_slices_EqualFunc_impl_Clue_r10 : List GOp := [⟨some 6, none, .asg false (.c (.bool false))⟩]
def c_slices_EqualFunc_impl_Clue : CC := .seq (.reg none c_slices_EqualFunc_impl_Clue_r10 [0, 1, 2]) (.seq (.seq (.reg none c_slices_EqualFunc_impl_Clue_r9 [0, 1, 2, 14]) (.cnd (.t 14) (.seq (.reg none c_slices_EqualFunc_impl_Clue_r8 [6]) (.ret)) (.skip))) (.seq (.seq (.reg none c_slices_EqualFunc_impl_Clue_r7 [0, 1, 2, 15, 16, 17]) (.blk 0 (.loop c_slices_EqualFunc_impl_Clue_b0 [0, 1, 2, 15, 16, 17]))) (.seq (.reg none c_slices_EqualFunc_impl_Clue_r0 [6]) (.ret))))
abbrev L_slices_EqualFunc_impl_Clue_0 (P : Program) (E : Env) (r : List RV) : Prop := Run P [.tmp 6] (.code c_slices_EqualFunc_impl_Clue_b0 :: .lp c_slices_EqualFunc_impl_Clue_b0 [0, 1, 2, 15, 16, 17] :: [.blk 0, .code (.seq (.reg none c_slices_EqualFunc_impl_Clue_r0 [6]) (.ret))]) E r
theorem k_slices_EqualFunc_impl_Clue : chkF Tryz.prog Tryz.f244 c_slices_EqualFunc_impl_Clue [.tmp 6] = true := by kernel_rfl
theorem S_slices_EqualFunc_impl_Clue {args : List AV} {r : List RV} (hs : sizeXs Tryz.prog Tryz.f244.results.toList r = true) (hn : args.length ≤ 32) (h : Run Tryz.prog [.tmp 6] [.code c_slices_EqualFunc_impl_Clue] (argEnv args 0) r) : CallsOK Tryz.prog F_slices_EqualFunc_impl_Clue args r := callsOK Tryz.func244 k_slices_EqualFunc_impl_Clue hs hn h

-- loop.example/g03003/laws.eqPuzzle
def c_laws_eqPuzzle_r0 : List GOp := [⟨some 4, none, .asg false (.c (.bool true))⟩]
def c_laws_eqPuzzle_r1 : List GOp := [⟨some 4, none, .asg false (.c (.bool false))⟩]
def c_laws_eqPuzzle_r2 : List GOp := [⟨some 23, none, .fld (.t 2) 5⟩,
  ⟨some 24, none, .ld (.t 23)⟩,
  ⟨some 25, none, .fld (.t 3) 5⟩,
  ⟨some 26, none, .ld (.t 25)⟩,
  ⟨some 27, none, .bin .neq (.t 24) (.t 26)⟩]
def c_laws_eqPuzzle_r3 : List GOp := [⟨some 4, none, .asg false (.c (.bool false))⟩]
def c_laws_eqPuzzle_r4 : List GOp := [⟨some 17, none, .fld (.t 2) 4⟩,
  ⟨some 18, none, .ld (.t 17)⟩,
  ⟨some 19, none, .fld (.t 3) 4⟩,
  ⟨some 20, none, .ld (.t 19)⟩,
  ⟨some 21, none, .call F_laws_eqIntS [.t 18, .t 20]⟩,
  ⟨some 22, none, .not (.t 21)⟩]
def c_laws_eqPuzzle_r5 : List GOp := [⟨some 4, none, .asg false (.c (.bool false))⟩]
def c_laws_eqPuzzle_r6 : List GOp := [⟨some 11, none, .fld (.t 2) 3⟩,
  ⟨some 12, none, .ld (.t 11)⟩,
  ⟨some 13, none, .fld (.t 3) 3⟩,
  ⟨some 14, none, .ld (.t 13)⟩,
  ⟨some 15, none, .call F_laws_eqClueS [.t 12, .t 14]⟩,
  ⟨some 16, none, .not (.t 15)⟩]
def c_laws_eqPuzzle_r7 : List GOp := [⟨some 4, none, .asg false (.c (.bool false))⟩]
def c_laws_eqPuzzle_r8 : List GOp := [⟨some 5, none, .fld (.t 2) 0⟩,
  ⟨some 6, none, .lda 3 (.t 5)⟩,
  ⟨some 7, none, .fld (.t 3) 0⟩,
  ⟨some 8, none, .lda 3 (.t 7)⟩,
  ⟨some 9, none, .call F_laws_eqGrid [.t 6, .t 8]⟩,
  ⟨some 10, none, .not (.t 9)⟩]
def c_laws_eqPuzzle_r9 : List GOp := [⟨some 2, none, .box (.t 0)⟩,
  ⟨some 3, none, .box (.t 1)⟩,
  ⟨some 4, none, .asg false (.c (.bool false))⟩]
def c_laws_eqPuzzle : CC := .seq (.reg none c_laws_eqPuzzle_r9 [2, 3]) (.seq (.seq (.reg none c_laws_eqPuzzle_r8 [2, 3, 10]) (.cnd (.t 10) (.seq (.reg none c_laws_eqPuzzle_r7 [4]) (.ret)) (.skip))) (.seq (.seq (.reg none c_laws_eqPuzzle_r6 [2, 3, 16]) (.cnd (.t 16) (.seq (.reg none c_laws_eqPuzzle_r5 [4]) (.ret)) (.skip))) (.seq (.seq (.reg none c_laws_eqPuzzle_r4 [2, 3, 22]) (.cnd (.t 22) (.seq (.reg none c_laws_eqPuzzle_r3 [4]) (.ret)) (.skip))) (.seq (.seq (.reg none c_laws_eqPuzzle_r2 [27]) (.cnd (.t 27) (.seq (.reg none c_laws_eqPuzzle_r1 [4]) (.ret)) (.skip))) (.seq (.reg none c_laws_eqPuzzle_r0 [4]) (.ret))))))
theorem k_laws_eqPuzzle : chkF Tryz.prog Tryz.f246 c_laws_eqPuzzle [.tmp 4] = true := by kernel_rfl
theorem S_laws_eqPuzzle {args : List AV} {r : List RV} (hs : sizeXs Tryz.prog Tryz.f246.results.toList r = true) (hn : args.length ≤ 28) (h : Run Tryz.prog [.tmp 4] [.code c_laws_eqPuzzle] (argEnv args 0) r) : CallsOK Tryz.prog F_laws_eqPuzzle args r := callsOK Tryz.func246 k_laws_eqPuzzle hs hn h

-- loop.example/g03003/impl.isLetter
def c_impl_isLetter_r0 : List GOp := [⟨some 3, none, .mv (.t 0)⟩,
  ⟨some 4, none, .bin .geq (.t 3) (.c (.int .u8 97))⟩,
  ⟨some 5, none, .mv (.t 4)⟩,
  ⟨some 6, some (5, true), .mv (.t 0)⟩,
  ⟨some 7, some (5, true), .bin .leq (.t 6) (.c (.int .u8 122))⟩,
  ⟨some 8, none, .pick (.t 5) (.t 7) (.c (.bool false))⟩,
  ⟨some 2, none, .asg true (.t 8)⟩]
def c_impl_isLetter_r1 : List GOp := [⟨some 2, none, .asg false (.c (.bool false))⟩]
def c_impl_isLetter : CC := .seq (.reg none c_impl_isLetter_r1 [0]) (.seq (.reg none c_impl_isLetter_r0 [2]) (.ret))
theorem k_impl_isLetter : chkF Tryz.prog Tryz.f254 c_impl_isLetter [.tmp 2] = true := by kernel_rfl
theorem S_impl_isLetter {args : List AV} {r : List RV} (hs : sizeXs Tryz.prog Tryz.f254.results.toList r = true) (hn : args.length ≤ 9) (h : Run Tryz.prog [.tmp 2] [.code c_impl_isLetter] (argEnv args 0) r) : CallsOK Tryz.prog F_impl_isLetter args r := callsOK Tryz.func254 k_impl_isLetter hs hn h

-- loop.example/g03003/laws.eqIntS
def c_laws_eqIntS_r0 : List GOp := [⟨some 4, none, .asg false (.c (.bool true))⟩]
def c_laws_eqIntS_r1 : List GOp := [⟨some 15, none, .mv (.t 5)⟩,
  ⟨some 16, none, .bin .add (.t 15) (.c (.int .i64 1))⟩,
  ⟨some 5, none, .asg true (.t 16)⟩]
def c_laws_eqIntS_r2 : List GOp := [⟨some 4, none, .asg false (.c (.bool false))⟩]
def c_laws_eqIntS_r3 : List GOp := [⟨some 17, none, .mv (.t 0)⟩,
  ⟨some 18, none, .mv (.t 5)⟩,
  ⟨some 19, none, .idx 1 (.t 17) (.t 18)⟩,
  ⟨some 20, none, .ld (.t 19)⟩,
  ⟨some 21, none, .mv (.t 1)⟩,
  ⟨some 22, none, .mv (.t 5)⟩,
  ⟨some 23, none, .idx 1 (.t 21) (.t 22)⟩,
  ⟨some 24, none, .ld (.t 23)⟩,
  ⟨some 25, none, .bin .neq (.t 20) (.t 24)⟩]
def c_laws_eqIntS_r4 : List GOp := [⟨some 11, none, .mv (.t 5)⟩,
  ⟨some 12, none, .mv (.t 0)⟩,
  ⟨some 13, none, .len (.t 12)⟩,
  ⟨some 14, none, .bin .lss (.t 11) (.t 13)⟩]
def c_laws_eqIntS_b0 : CC := .seq (.seq (.reg none c_laws_eqIntS_r4 [0, 1, 5, 14]) (.cnd (.t 14) (.skip) (.exit 0))) (.seq (.blk 1 (.seq (.reg (some (9, [[], [], [0, 1], [0, 1, 2], [], [], [4, 5], [4, 5, 6], [0, 1, 2, 3, 4, 5, 6, 7]])) c_laws_eqIntS_r3 [0, 1, 5, 25]) (.cnd (.t 25) (.seq (.reg none c_laws_eqIntS_r2 [4]) (.ret)) (.skip)))) (.reg none c_laws_eqIntS_r1 [0, 1, 5]))
def c_laws_eqIntS_r5 : List GOp := [⟨some 5, none, .asg false (.c (.int .i64 0))⟩]
def c_laws_eqIntS_r6 : List GOp := [⟨some 4, none, .asg false (.c (.bool false))⟩]
def c_laws_eqIntS_r7 : List GOp := [⟨some 6, none, .mv (.t 0)⟩,
  ⟨some 7, none, .len (.t 6)⟩,
  ⟨some 8, none, .mv (.t 1)⟩,
  ⟨some 9, none, .len (.t 8)⟩,
  ⟨some 10, none, .bin .neq (.t 7) (.t 9)⟩]
def c_laws_eqIntS_r8 : List GOp := [⟨some 4, none, .asg false (.c (.bool false))⟩]
def c_laws_eqIntS : CC := .seq (.reg none c_laws_eqIntS_r8 [0, 1]) (.seq (.seq (.reg none c_laws_eqIntS_r7 [0, 1, 10]) (.cnd (.t 10) (.seq (.reg none c_laws_eqIntS_r6 [4]) (.ret)) (.skip))) (.seq (.seq (.reg none c_laws_eqIntS_r5 [0, 1, 5]) (.blk 0 (.loop c_laws_eqIntS_b0 [0, 1, 5]))) (.seq (.reg none c_laws_eqIntS_r0 [4]) (.ret))))
abbrev L_laws_eqIntS_0 (P : Program) (E : Env) (r : List RV) : Prop := Run P [.tmp 4] (.code c_laws_eqIntS_b0 :: .lp c_laws_eqIntS_b0 [0, 1, 5] :: [.blk 0, .code (.seq (.reg none c_laws_eqIntS_r0 [4]) (.ret))]) E r
theorem k_laws_eqIntS : chkF Tryz.prog Tryz.f296 c_laws_eqIntS [.tmp 4] = true := by kernel_rfl
theorem S_laws_eqIntS {args : List AV} {r : List RV} (hs : sizeXs Tryz.prog Tryz.f296.results.toList r = true) (hn : args.length ≤ 26) (h : Run Tryz.prog [.tmp 4] [.code c_laws_eqIntS] (argEnv args 0) r) : CallsOK Tryz.prog F_laws_eqIntS args r := callsOK Tryz.func296 k_laws_eqIntS hs hn h

end Go.Rd
