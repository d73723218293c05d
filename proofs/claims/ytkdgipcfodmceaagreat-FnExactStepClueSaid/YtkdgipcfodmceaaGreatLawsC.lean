import Derived.Test.YtkdgipcfodmceaaGreatLawsB
/- Contracts of the functions that the law reaches. No condition. -/
set_option linter.unusedVariables false
set_option linter.unusedSimpArgs false
namespace Go.Rd
open Go.Proofs
set_option linter.unusedSimpArgs false
set_option linter.unusedVariables false
set_option maxRecDepth 10000
set_option maxHeartbeats 2000000
theorem heldStepS_ok (xs : List Stp) (k0 : Nat) (hs : smStepS xs) (hk0 : k0 + tot stStp xs ≤ 4294967296) :
    CallsOK PP F_laws_heldStepS [.v (.sl 4 ((mkAll mkStp stStp xs k0).map rStp)), .v (.int .i64 k0)] [.v (.int .i64 ((k0 + tot stStp xs : Nat) : Int))] := by
  obtain ⟨hlen, hall⟩ := hs
  refine S_laws_heldStepS rfl (Nat.le_of_ble_eq_true rfl) ?_
  have hml := mkAll_len mkStp stStp xs k0
  have key : ∀ n : Nat, n ≤ xs.length → L_laws_heldStepS_0 PP [(0, .v (.sl 4 ((mkAll mkStp stStp xs k0).map rStp))), (1, .v (.int .i64 ((k0 + tot stStp (xs.take n) : Nat) : Int))), (5, .v (.int .i64 n))] [.v (.int .i64 ((k0 + tot stStp xs : Nat) : Int))] := up xs.length (fun n ih hn => ?_)
  · repeat' (first|refine goM rfl ?_|refine goR rfl ?_|refine goX rfl ?_|refine goY rfl ?_)
    refine run_loopF rfl ?_
    exact key 0 (Nat.zero_le _)
  · repeat' (first|refine goM rfl ?_|refine goR rfl ?_|refine goX rfl ?_|refine goY rfl ?_)
    rw [List.length_map, hml]
    refine run_cnd_lt rfl (fun hk => ?_) (fun hk => ?_)
    · have ih := ih hk
      rw [tot_take stStp xs hk, ← Nat.add_assoc] at ih
      have hb := tot_take_le stStp xs hk
      have hkl : n < (mkAll mkStp stStp xs k0).length := by rw [hml]; exact hk
      have hg := mkAll_get mkStp stStp xs k0 n hk
      have hb2 : k0 + tot stStp (xs.take n) + stStp xs[n] ≤ 4294967296 := by omega
      clear hb hn
      generalize k0 + tot stStp (xs.take n) = K at ih hb2 hg ⊢
      have hrow : rStp ((mkAll mkStp stStp xs k0)[n]'hkl) = [dI ((K : Nat) : Int), dS (markT (K + 1)), dI ((K + 1 + 1 : Nat) : Int), dI ((K + 1 + 1 + 1 : Nat) : Int)] := by rw [hg]; rfl
      clear hg
      simp only [stStp] at hb2
      have w0 : IntKind.i64.wrap (((K : Nat) : Int) + 1) = ((K + 1 : Nat) : Int) := wsucc (by omega)
      have w1 : IntKind.i64.wrap (((K + 1 : Nat) : Int) + 1) = ((K + 1 + 1 : Nat) : Int) := wsucc (by omega)
      have w2 : IntKind.i64.wrap (((K + 1 + 1 : Nat) : Int) + 1) = ((K + 1 + 1 + 1 : Nat) : Int) := wsucc (by omega)
      have w3 : IntKind.i64.wrap (((K + 1 + 1 + 1 : Nat) : Int) + 1) = ((K + 1 + 1 + 1 + 1 : Nat) : Int) := wsucc (by omega)
      repeat' (first|refine mid_idxm rfl rfl hkl rfl ?_|rw [hrow]|refine run_neI rfl ?_|refine goM rfl ?_|refine goR rfl ?_|refine goX rfl ?_|refine goY rfl ?_)
      rw [w0]
      repeat' (first|refine mid_idxm rfl rfl hkl rfl ?_|rw [hrow]|refine run_neS rfl ?_|refine goM rfl ?_|refine goR rfl ?_|refine goX rfl ?_|refine goY rfl ?_|refine goC (markText_ok (K + 1) (by omega)) rfl rfl rfl rfl ?_)
      rw [w1]
      repeat' (first|refine mid_idxm rfl rfl hkl rfl ?_|rw [hrow]|refine run_neI rfl ?_|refine goM rfl ?_|refine goR rfl ?_|refine goX rfl ?_|refine goY rfl ?_)
      rw [w2]
      repeat' (first|refine run_neI rfl ?_|refine goM rfl ?_|refine goR rfl ?_|refine goX rfl ?_|refine goY rfl ?_)
      rw [w3]
      skip
      rw [wsucc (show n < 9223372036854775807 by omega)]
      refine run_backF rfl ?_
      have he : K + 1 + 1 + 1 + 1 = K + stStp xs[n] := by simp only [stStp] <;> omega
      rw [he]
      exact ih (by omega)
    · have e : n = xs.length := by omega
      subst e
      rw [List.take_length]
      repeat' (first|refine goM rfl ?_|refine goR rfl ?_|refine goX rfl ?_|refine goY rfl ?_)
      (first|refine run_ret rfl ?_|refine run_done rfl ?_)
      rfl
theorem heldIntS_ok (xs : List Int) (k0 : Nat) (hs : smIntS xs) (hk0 : k0 + tot stInt xs ≤ 4294967296) :
    CallsOK PP F_laws_heldIntS [.v (.sl 1 ((mkAll mkInt stInt xs k0).map rI)), .v (.int .i64 k0)] [.v (.int .i64 ((k0 + tot stInt xs : Nat) : Int))] := by
  obtain ⟨hlen, hall⟩ := hs
  refine S_laws_heldIntS rfl (Nat.le_of_ble_eq_true rfl) ?_
  have hml := mkAll_len mkInt stInt xs k0
  have key : ∀ n : Nat, n ≤ xs.length → L_laws_heldIntS_0 PP [(0, .v (.sl 1 ((mkAll mkInt stInt xs k0).map rI))), (1, .v (.int .i64 ((k0 + tot stInt (xs.take n) : Nat) : Int))), (5, .v (.int .i64 n))] [.v (.int .i64 ((k0 + tot stInt xs : Nat) : Int))] := up xs.length (fun n ih hn => ?_)
  · repeat' (first|refine goM rfl ?_|refine goR rfl ?_|refine goX rfl ?_|refine goY rfl ?_)
    refine run_loopF rfl ?_
    exact key 0 (Nat.zero_le _)
  · repeat' (first|refine goM rfl ?_|refine goR rfl ?_|refine goX rfl ?_|refine goY rfl ?_)
    rw [List.length_map, hml]
    refine run_cnd_lt rfl (fun hk => ?_) (fun hk => ?_)
    · have ih := ih hk
      rw [tot_take stInt xs hk, ← Nat.add_assoc] at ih
      have hb := tot_take_le stInt xs hk
      have hkl : n < (mkAll mkInt stInt xs k0).length := by rw [hml]; exact hk
      have hg := mkAll_get mkInt stInt xs k0 n hk
      have hb2 : k0 + tot stInt (xs.take n) + stInt xs[n] ≤ 4294967296 := by omega
      clear hb hn
      generalize k0 + tot stInt (xs.take n) = K at ih hb2 hg ⊢
      have hrow : rI ((mkAll mkInt stInt xs k0)[n]'hkl) = [dI ((K : Nat) : Int)] := by rw [hg]; rfl
      clear hg
      simp only [stInt] at hb2
      have w0 : IntKind.i64.wrap (((K : Nat) : Int) + 1) = ((K + 1 : Nat) : Int) := wsucc (by omega)
      repeat' (first|refine mid_idxm rfl rfl hkl rfl ?_|rw [hrow]|refine run_neI rfl ?_|refine goM rfl ?_|refine goR rfl ?_|refine goX rfl ?_|refine goY rfl ?_)
      rw [w0]
      skip
      rw [wsucc (show n < 9223372036854775807 by omega)]
      refine run_backF rfl ?_
      have he : K + 1 = K + stInt xs[n] := by simp only [stInt] <;> omega
      rw [he]
      exact ih (by omega)
    · have e : n = xs.length := by omega
      subst e
      rw [List.take_length]
      repeat' (first|refine goM rfl ?_|refine goR rfl ?_|refine goX rfl ?_|refine goY rfl ?_)
      (first|refine run_ret rfl ?_|refine run_done rfl ?_)
      rfl
theorem heldListedS_ok (xs : List Lis) (k0 : Nat) (hs : smListedS xs) (hk0 : k0 + tot stLis xs ≤ 4294967296) :
    CallsOK PP F_laws_heldListedS [.v (.sl 4 ((mkAll mkLis stLis xs k0).map rLis)), .v (.int .i64 k0)] [.v (.int .i64 ((k0 + tot stLis xs : Nat) : Int))] := by
  obtain ⟨hlen, hall⟩ := hs
  refine S_laws_heldListedS rfl (Nat.le_of_ble_eq_true rfl) ?_
  have hml := mkAll_len mkLis stLis xs k0
  have key : ∀ n : Nat, n ≤ xs.length → L_laws_heldListedS_0 PP [(0, .v (.sl 4 ((mkAll mkLis stLis xs k0).map rLis))), (1, .v (.int .i64 ((k0 + tot stLis (xs.take n) : Nat) : Int))), (5, .v (.int .i64 n))] [.v (.int .i64 ((k0 + tot stLis xs : Nat) : Int))] := up xs.length (fun n ih hn => ?_)
  · repeat' (first|refine goM rfl ?_|refine goR rfl ?_|refine goX rfl ?_|refine goY rfl ?_)
    refine run_loopF rfl ?_
    exact key 0 (Nat.zero_le _)
  · repeat' (first|refine goM rfl ?_|refine goR rfl ?_|refine goX rfl ?_|refine goY rfl ?_)
    rw [List.length_map, hml]
    refine run_cnd_lt rfl (fun hk => ?_) (fun hk => ?_)
    · have ih := ih hk
      rw [tot_take stLis xs hk, ← Nat.add_assoc] at ih
      have hb := tot_take_le stLis xs hk
      have hkl : n < (mkAll mkLis stLis xs k0).length := by rw [hml]; exact hk
      have hg := mkAll_get mkLis stLis xs k0 n hk
      have hb2 : k0 + tot stLis (xs.take n) + stLis xs[n] ≤ 4294967296 := by omega
      clear hb hn
      generalize k0 + tot stLis (xs.take n) = K at ih hb2 hg ⊢
      have hrow : rLis ((mkAll mkLis stLis xs k0)[n]'hkl) = [dS (markT (K)), dI ((K + 1 : Nat) : Int), dI ((K + 1 + 1 : Nat) : Int), dI ((K + 1 + 1 + 1 : Nat) : Int)] := by rw [hg]; rfl
      clear hg
      simp only [stLis] at hb2
      have w0 : IntKind.i64.wrap (((K : Nat) : Int) + 1) = ((K + 1 : Nat) : Int) := wsucc (by omega)
      have w1 : IntKind.i64.wrap (((K + 1 : Nat) : Int) + 1) = ((K + 1 + 1 : Nat) : Int) := wsucc (by omega)
      have w2 : IntKind.i64.wrap (((K + 1 + 1 : Nat) : Int) + 1) = ((K + 1 + 1 + 1 : Nat) : Int) := wsucc (by omega)
      have w3 : IntKind.i64.wrap (((K + 1 + 1 + 1 : Nat) : Int) + 1) = ((K + 1 + 1 + 1 + 1 : Nat) : Int) := wsucc (by omega)
      repeat' (first|refine mid_idxm rfl rfl hkl rfl ?_|rw [hrow]|refine run_neS rfl ?_|refine goM rfl ?_|refine goR rfl ?_|refine goX rfl ?_|refine goY rfl ?_|refine goC (markText_ok (K) (by omega)) rfl rfl rfl rfl ?_)
      rw [w0]
      repeat' (first|refine mid_idxm rfl rfl hkl rfl ?_|rw [hrow]|refine run_neI rfl ?_|refine goM rfl ?_|refine goR rfl ?_|refine goX rfl ?_|refine goY rfl ?_)
      rw [w1]
      repeat' (first|refine mid_idxm rfl rfl hkl rfl ?_|rw [hrow]|refine run_neI rfl ?_|refine goM rfl ?_|refine goR rfl ?_|refine goX rfl ?_|refine goY rfl ?_)
      rw [w2]
      repeat' (first|refine run_neI rfl ?_|refine goM rfl ?_|refine goR rfl ?_|refine goX rfl ?_|refine goY rfl ?_)
      rw [w3]
      skip
      rw [wsucc (show n < 9223372036854775807 by omega)]
      refine run_backF rfl ?_
      have he : K + 1 + 1 + 1 + 1 = K + stLis xs[n] := by simp only [stLis] <;> omega
      rw [he]
      exact ih (by omega)
    · have e : n = xs.length := by omega
      subst e
      rw [List.take_length]
      repeat' (first|refine goM rfl ?_|refine goR rfl ?_|refine goX rfl ?_|refine goY rfl ?_)
      (first|refine run_ret rfl ?_|refine run_done rfl ?_)
      rfl
theorem heldMeaningS_ok (xs : List Mea) (k0 : Nat) (hs : smMeaningS xs) (hk0 : k0 + tot stMea xs ≤ 4294967296) :
    CallsOK PP F_laws_heldMeaningS [.v (.sl 2 ((mkAll mkMea stMea xs k0).map rMea)), .v (.int .i64 k0)] [.v (.int .i64 ((k0 + tot stMea xs : Nat) : Int))] := by
  obtain ⟨hlen, hall⟩ := hs
  refine S_laws_heldMeaningS rfl (Nat.le_of_ble_eq_true rfl) ?_
  have hml := mkAll_len mkMea stMea xs k0
  have key : ∀ n : Nat, n ≤ xs.length → L_laws_heldMeaningS_0 PP [(0, .v (.sl 2 ((mkAll mkMea stMea xs k0).map rMea))), (1, .v (.int .i64 ((k0 + tot stMea (xs.take n) : Nat) : Int))), (5, .v (.int .i64 n))] [.v (.int .i64 ((k0 + tot stMea xs : Nat) : Int))] := up xs.length (fun n ih hn => ?_)
  · repeat' (first|refine goM rfl ?_|refine goR rfl ?_|refine goX rfl ?_|refine goY rfl ?_)
    refine run_loopF rfl ?_
    exact key 0 (Nat.zero_le _)
  · repeat' (first|refine goM rfl ?_|refine goR rfl ?_|refine goX rfl ?_|refine goY rfl ?_)
    rw [List.length_map, hml]
    refine run_cnd_lt rfl (fun hk => ?_) (fun hk => ?_)
    · have ih := ih hk
      rw [tot_take stMea xs hk, ← Nat.add_assoc] at ih
      have hb := tot_take_le stMea xs hk
      have hkl : n < (mkAll mkMea stMea xs k0).length := by rw [hml]; exact hk
      have hg := mkAll_get mkMea stMea xs k0 n hk
      have hb2 : k0 + tot stMea (xs.take n) + stMea xs[n] ≤ 4294967296 := by omega
      clear hb hn
      generalize k0 + tot stMea (xs.take n) = K at ih hb2 hg ⊢
      have hrow : rMea ((mkAll mkMea stMea xs k0)[n]'hkl) = [dS (markT (K)), dI ((K + 1 : Nat) : Int)] := by rw [hg]; rfl
      clear hg
      simp only [stMea] at hb2
      have w0 : IntKind.i64.wrap (((K : Nat) : Int) + 1) = ((K + 1 : Nat) : Int) := wsucc (by omega)
      have w1 : IntKind.i64.wrap (((K + 1 : Nat) : Int) + 1) = ((K + 1 + 1 : Nat) : Int) := wsucc (by omega)
      repeat' (first|refine mid_idxm rfl rfl hkl rfl ?_|rw [hrow]|refine run_neS rfl ?_|refine goM rfl ?_|refine goR rfl ?_|refine goX rfl ?_|refine goY rfl ?_|refine goC (markText_ok (K) (by omega)) rfl rfl rfl rfl ?_)
      rw [w0]
      repeat' (first|refine run_neI rfl ?_|refine goM rfl ?_|refine goR rfl ?_|refine goX rfl ?_|refine goY rfl ?_)
      rw [w1]
      skip
      rw [wsucc (show n < 9223372036854775807 by omega)]
      refine run_backF rfl ?_
      have he : K + 1 + 1 = K + stMea xs[n] := by simp only [stMea] <;> omega
      rw [he]
      exact ih (by omega)
    · have e : n = xs.length := by omega
      subst e
      rw [List.take_length]
      repeat' (first|refine goM rfl ?_|refine goR rfl ?_|refine goX rfl ?_|refine goY rfl ?_)
      (first|refine run_ret rfl ?_|refine run_done rfl ?_)
      rfl
theorem heldUsedS_ok (xs : List Use) (k0 : Nat) (hs : smUsedS xs) (hk0 : k0 + tot stUse xs ≤ 4294967296) :
    CallsOK PP F_laws_heldUsedS [.v (.sl 2 ((mkAll mkUse stUse xs k0).map rUse)), .v (.int .i64 k0)] [.v (.int .i64 ((k0 + tot stUse xs : Nat) : Int))] := by
  obtain ⟨hlen, hall⟩ := hs
  refine S_laws_heldUsedS rfl (Nat.le_of_ble_eq_true rfl) ?_
  have hml := mkAll_len mkUse stUse xs k0
  have key : ∀ n : Nat, n ≤ xs.length → L_laws_heldUsedS_0 PP [(0, .v (.sl 2 ((mkAll mkUse stUse xs k0).map rUse))), (1, .v (.int .i64 ((k0 + tot stUse (xs.take n) : Nat) : Int))), (5, .v (.int .i64 n))] [.v (.int .i64 ((k0 + tot stUse xs : Nat) : Int))] := up xs.length (fun n ih hn => ?_)
  · repeat' (first|refine goM rfl ?_|refine goR rfl ?_|refine goX rfl ?_|refine goY rfl ?_)
    refine run_loopF rfl ?_
    exact key 0 (Nat.zero_le _)
  · repeat' (first|refine goM rfl ?_|refine goR rfl ?_|refine goX rfl ?_|refine goY rfl ?_)
    rw [List.length_map, hml]
    refine run_cnd_lt rfl (fun hk => ?_) (fun hk => ?_)
    · have ih := ih hk
      rw [tot_take stUse xs hk, ← Nat.add_assoc] at ih
      have hb := tot_take_le stUse xs hk
      have hkl : n < (mkAll mkUse stUse xs k0).length := by rw [hml]; exact hk
      have hg := mkAll_get mkUse stUse xs k0 n hk
      have hb2 : k0 + tot stUse (xs.take n) + stUse xs[n] ≤ 4294967296 := by omega
      clear hb hn
      generalize k0 + tot stUse (xs.take n) = K at ih hb2 hg ⊢
      have hrow : rUse ((mkAll mkUse stUse xs k0)[n]'hkl) = [dS (markT (K)), dI ((K + 1 : Nat) : Int)] := by rw [hg]; rfl
      clear hg
      simp only [stUse] at hb2
      have w0 : IntKind.i64.wrap (((K : Nat) : Int) + 1) = ((K + 1 : Nat) : Int) := wsucc (by omega)
      have w1 : IntKind.i64.wrap (((K + 1 : Nat) : Int) + 1) = ((K + 1 + 1 : Nat) : Int) := wsucc (by omega)
      repeat' (first|refine mid_idxm rfl rfl hkl rfl ?_|rw [hrow]|refine run_neS rfl ?_|refine goM rfl ?_|refine goR rfl ?_|refine goX rfl ?_|refine goY rfl ?_|refine goC (markText_ok (K) (by omega)) rfl rfl rfl rfl ?_)
      rw [w0]
      repeat' (first|refine run_neI rfl ?_|refine goM rfl ?_|refine goR rfl ?_|refine goX rfl ?_|refine goY rfl ?_)
      rw [w1]
      skip
      rw [wsucc (show n < 9223372036854775807 by omega)]
      refine run_backF rfl ?_
      have he : K + 1 + 1 = K + stUse xs[n] := by simp only [stUse] <;> omega
      rw [he]
      exact ih (by omega)
    · have e : n = xs.length := by omega
      subst e
      rw [List.take_length]
      repeat' (first|refine goM rfl ?_|refine goR rfl ?_|refine goX rfl ?_|refine goY rfl ?_)
      (first|refine run_ret rfl ?_|refine run_done rfl ?_)
      rfl
theorem heldEntryS_ok (xs : List Ent) (k0 : Nat) (hs : smEntryS xs) (hk0 : k0 + tot stEnt xs ≤ 4294967296) :
    CallsOK PP F_laws_heldEntryS [.v (.sl 4 ((mkAll mkEnt stEnt xs k0).map rEnt)), .v (.int .i64 k0)] [.v (.int .i64 ((k0 + tot stEnt xs : Nat) : Int))] := by
  obtain ⟨hlen, hall⟩ := hs
  refine S_laws_heldEntryS rfl (Nat.le_of_ble_eq_true rfl) ?_
  have hml := mkAll_len mkEnt stEnt xs k0
  have key : ∀ n : Nat, n ≤ xs.length → L_laws_heldEntryS_0 PP [(0, .v (.sl 4 ((mkAll mkEnt stEnt xs k0).map rEnt))), (1, .v (.int .i64 ((k0 + tot stEnt (xs.take n) : Nat) : Int))), (5, .v (.int .i64 n))] [.v (.int .i64 ((k0 + tot stEnt xs : Nat) : Int))] := up xs.length (fun n ih hn => ?_)
  · repeat' (first|refine goM rfl ?_|refine goR rfl ?_|refine goX rfl ?_|refine goY rfl ?_)
    refine run_loopF rfl ?_
    exact key 0 (Nat.zero_le _)
  · repeat' (first|refine goM rfl ?_|refine goR rfl ?_|refine goX rfl ?_|refine goY rfl ?_)
    rw [List.length_map, hml]
    refine run_cnd_lt rfl (fun hk => ?_) (fun hk => ?_)
    · have ih := ih hk
      rw [tot_take stEnt xs hk, ← Nat.add_assoc] at ih
      have hb := tot_take_le stEnt xs hk
      have hkl : n < (mkAll mkEnt stEnt xs k0).length := by rw [hml]; exact hk
      have hg := mkAll_get mkEnt stEnt xs k0 n hk
      have hb2 : k0 + tot stEnt (xs.take n) + stEnt xs[n] ≤ 4294967296 := by omega
      clear hb hn
      generalize k0 + tot stEnt (xs.take n) = K at ih hb2 hg ⊢
      have hrow : rEnt ((mkAll mkEnt stEnt xs k0)[n]'hkl) = [dI ((K : Nat) : Int), dI ((K + 1 : Nat) : Int), dI ((K + 1 + 1 : Nat) : Int), dS (markT (K + 1 + 1 + 1))] := by rw [hg]; rfl
      clear hg
      simp only [stEnt] at hb2
      have w0 : IntKind.i64.wrap (((K : Nat) : Int) + 1) = ((K + 1 : Nat) : Int) := wsucc (by omega)
      have w1 : IntKind.i64.wrap (((K + 1 : Nat) : Int) + 1) = ((K + 1 + 1 : Nat) : Int) := wsucc (by omega)
      have w2 : IntKind.i64.wrap (((K + 1 + 1 : Nat) : Int) + 1) = ((K + 1 + 1 + 1 : Nat) : Int) := wsucc (by omega)
      have w3 : IntKind.i64.wrap (((K + 1 + 1 + 1 : Nat) : Int) + 1) = ((K + 1 + 1 + 1 + 1 : Nat) : Int) := wsucc (by omega)
      repeat' (first|refine mid_idxm rfl rfl hkl rfl ?_|rw [hrow]|refine run_neI rfl ?_|refine goM rfl ?_|refine goR rfl ?_|refine goX rfl ?_|refine goY rfl ?_)
      rw [w0]
      repeat' (first|refine mid_idxm rfl rfl hkl rfl ?_|rw [hrow]|refine run_neI rfl ?_|refine goM rfl ?_|refine goR rfl ?_|refine goX rfl ?_|refine goY rfl ?_)
      rw [w1]
      repeat' (first|refine mid_idxm rfl rfl hkl rfl ?_|rw [hrow]|refine run_neI rfl ?_|refine goM rfl ?_|refine goR rfl ?_|refine goX rfl ?_|refine goY rfl ?_)
      rw [w2]
      repeat' (first|refine run_neS rfl ?_|refine goM rfl ?_|refine goR rfl ?_|refine goX rfl ?_|refine goY rfl ?_|refine goC (markText_ok (K + 1 + 1 + 1) (by omega)) rfl rfl rfl rfl ?_)
      rw [w3]
      skip
      rw [wsucc (show n < 9223372036854775807 by omega)]
      refine run_backF rfl ?_
      have he : K + 1 + 1 + 1 + 1 = K + stEnt xs[n] := by simp only [stEnt] <;> omega
      rw [he]
      exact ih (by omega)
    · have e : n = xs.length := by omega
      subst e
      rw [List.take_length]
      repeat' (first|refine goM rfl ?_|refine goR rfl ?_|refine goX rfl ?_|refine goY rfl ?_)
      (first|refine run_ret rfl ?_|refine run_done rfl ?_)
      rfl
theorem heldClueS_ok (xs : List Clu) (k0 : Nat) (hs : smClueS xs) (hk0 : k0 + tot stClu xs ≤ 4294967296) :
    CallsOK PP F_laws_heldClueS [.v (.sl 2 ((mkAll mkClu stClu xs k0).map rClu)), .v (.int .i64 k0)] [.v (.int .i64 ((k0 + tot stClu xs : Nat) : Int))] := by
  obtain ⟨hlen, hall⟩ := hs
  refine S_laws_heldClueS rfl (Nat.le_of_ble_eq_true rfl) ?_
  have hml := mkAll_len mkClu stClu xs k0
  have key : ∀ n : Nat, n ≤ xs.length → L_laws_heldClueS_0 PP [(0, .v (.sl 2 ((mkAll mkClu stClu xs k0).map rClu))), (1, .v (.int .i64 ((k0 + tot stClu (xs.take n) : Nat) : Int))), (5, .v (.int .i64 n))] [.v (.int .i64 ((k0 + tot stClu xs : Nat) : Int))] := up xs.length (fun n ih hn => ?_)
  · repeat' (first|refine goM rfl ?_|refine goR rfl ?_|refine goX rfl ?_|refine goY rfl ?_)
    refine run_loopF rfl ?_
    exact key 0 (Nat.zero_le _)
  · repeat' (first|refine goM rfl ?_|refine goR rfl ?_|refine goX rfl ?_|refine goY rfl ?_)
    rw [List.length_map, hml]
    refine run_cnd_lt rfl (fun hk => ?_) (fun hk => ?_)
    · have ih := ih hk
      rw [tot_take stClu xs hk, ← Nat.add_assoc] at ih
      have hb := tot_take_le stClu xs hk
      have hkl : n < (mkAll mkClu stClu xs k0).length := by rw [hml]; exact hk
      have hg := mkAll_get mkClu stClu xs k0 n hk
      have hb2 : k0 + tot stClu (xs.take n) + stClu xs[n] ≤ 4294967296 := by omega
      clear hb hn
      generalize k0 + tot stClu (xs.take n) = K at ih hb2 hg ⊢
      have hrow : rClu ((mkAll mkClu stClu xs k0)[n]'hkl) = [dI ((K : Nat) : Int), .sl 4 ((mkAll mkStp stStp xs[n].play (K + 1)).map rStp)] := by rw [hg]; rfl
      clear hg
      simp only [stClu] at hb2
      have w0 : IntKind.i64.wrap (((K : Nat) : Int) + 1) = ((K + 1 : Nat) : Int) := wsucc (by omega)
      repeat' (first|refine mid_idxm rfl rfl hkl rfl ?_|rw [hrow]|refine run_neI rfl ?_|refine goM rfl ?_|refine goR rfl ?_|refine goX rfl ?_|refine goY rfl ?_)
      rw [w0]
      repeat' (first|refine run_sz rfl (fun h => absurd h (by omega)) (fun _ => ?_)|refine goM rfl ?_|refine goR rfl ?_|refine goX rfl ?_|refine goY rfl ?_|refine goC (heldStepS_ok xs[n].play (K + 1) (hall _ (List.getElem_mem hk)) (by omega)) rfl rfl rfl rfl ?_)
      skip
      rw [wsucc (show n < 9223372036854775807 by omega)]
      refine run_backF rfl ?_
      have he : K + 1 + tot stStp xs[n].play = K + stClu xs[n] := by simp only [stClu] <;> omega
      rw [he]
      exact ih (by omega)
    · have e : n = xs.length := by omega
      subst e
      rw [List.take_length]
      repeat' (first|refine goM rfl ?_|refine goR rfl ?_|refine goX rfl ?_|refine goY rfl ?_)
      (first|refine run_ret rfl ?_|refine run_done rfl ?_)
      rfl
theorem heldCorrectionS_ok (xs : List Cor) (k0 : Nat) (hs : smCorrectionS xs) (hk0 : k0 + tot stCor xs ≤ 4294967296) :
    CallsOK PP F_laws_heldCorrectionS [.v (.sl 5 ((mkAll mkCor stCor xs k0).map rCor)), .v (.int .i64 k0)] [.v (.int .i64 ((k0 + tot stCor xs : Nat) : Int))] := by
  obtain ⟨hlen, hall⟩ := hs
  refine S_laws_heldCorrectionS rfl (Nat.le_of_ble_eq_true rfl) ?_
  have hml := mkAll_len mkCor stCor xs k0
  have key : ∀ n : Nat, n ≤ xs.length → L_laws_heldCorrectionS_0 PP [(0, .v (.sl 5 ((mkAll mkCor stCor xs k0).map rCor))), (1, .v (.int .i64 ((k0 + tot stCor (xs.take n) : Nat) : Int))), (5, .v (.int .i64 n))] [.v (.int .i64 ((k0 + tot stCor xs : Nat) : Int))] := up xs.length (fun n ih hn => ?_)
  · repeat' (first|refine goM rfl ?_|refine goR rfl ?_|refine goX rfl ?_|refine goY rfl ?_)
    refine run_loopF rfl ?_
    exact key 0 (Nat.zero_le _)
  · repeat' (first|refine goM rfl ?_|refine goR rfl ?_|refine goX rfl ?_|refine goY rfl ?_)
    rw [List.length_map, hml]
    refine run_cnd_lt rfl (fun hk => ?_) (fun hk => ?_)
    · have ih := ih hk
      rw [tot_take stCor xs hk, ← Nat.add_assoc] at ih
      have hb := tot_take_le stCor xs hk
      have hkl : n < (mkAll mkCor stCor xs k0).length := by rw [hml]; exact hk
      have hg := mkAll_get mkCor stCor xs k0 n hk
      have hb2 : k0 + tot stCor (xs.take n) + stCor xs[n] ≤ 4294967296 := by omega
      clear hb hn
      generalize k0 + tot stCor (xs.take n) = K at ih hb2 hg ⊢
      have hrow : rCor ((mkAll mkCor stCor xs k0)[n]'hkl) = [dI ((K : Nat) : Int), dI ((K + 1 : Nat) : Int), dI ((K + 1 + 1 : Nat) : Int), .sl 4 ((mkAll mkStp stStp xs[n].clue.play (K + 1 + 1 + 1)).map rStp), dI ((K + 1 + 1 + 1 + tot stStp xs[n].clue.play : Nat) : Int)] := by rw [hg]; rfl
      clear hg
      simp only [stCor] at hb2
      have w0 : IntKind.i64.wrap (((K : Nat) : Int) + 1) = ((K + 1 : Nat) : Int) := wsucc (by omega)
      have w1 : IntKind.i64.wrap (((K + 1 : Nat) : Int) + 1) = ((K + 1 + 1 : Nat) : Int) := wsucc (by omega)
      have w2 : IntKind.i64.wrap (((K + 1 + 1 : Nat) : Int) + 1) = ((K + 1 + 1 + 1 : Nat) : Int) := wsucc (by omega)
      have w4 : IntKind.i64.wrap (((K + 1 + 1 + 1 + tot stStp xs[n].clue.play : Nat) : Int) + 1) = ((K + 1 + 1 + 1 + tot stStp xs[n].clue.play + 1 : Nat) : Int) := wsucc (by omega)
      repeat' (first|refine mid_idxm rfl rfl hkl rfl ?_|rw [hrow]|refine run_neI rfl ?_|refine goM rfl ?_|refine goR rfl ?_|refine goX rfl ?_|refine goY rfl ?_)
      rw [w0]
      repeat' (first|refine mid_idxm rfl rfl hkl rfl ?_|rw [hrow]|refine run_neI rfl ?_|refine goM rfl ?_|refine goR rfl ?_|refine goX rfl ?_|refine goY rfl ?_)
      rw [w1]
      repeat' (first|refine mid_idxm rfl rfl hkl rfl ?_|rw [hrow]|refine run_neI rfl ?_|refine goM rfl ?_|refine goR rfl ?_|refine goX rfl ?_|refine goY rfl ?_)
      rw [w2]
      repeat' (first|refine mid_idxm rfl rfl hkl rfl ?_|rw [hrow]|refine run_sz rfl (fun h => absurd h (by omega)) (fun _ => ?_)|refine goM rfl ?_|refine goR rfl ?_|refine goX rfl ?_|refine goY rfl ?_|refine goC (heldStepS_ok xs[n].clue.play (K + 1 + 1 + 1) (hall _ (List.getElem_mem hk)) (by omega)) rfl rfl rfl rfl ?_)
      repeat' (first|refine run_neI rfl ?_|refine goM rfl ?_|refine goR rfl ?_|refine goX rfl ?_|refine goY rfl ?_)
      rw [w4]
      skip
      rw [wsucc (show n < 9223372036854775807 by omega)]
      refine run_backF rfl ?_
      have he : K + 1 + 1 + 1 + tot stStp xs[n].clue.play + 1 = K + stCor xs[n] := by simp only [stCor] <;> omega
      rw [he]
      exact ih (by omega)
    · have e : n = xs.length := by omega
      subst e
      rw [List.take_length]
      repeat' (first|refine goM rfl ?_|refine goR rfl ?_|refine goX rfl ?_|refine goY rfl ?_)
      (first|refine run_ret rfl ?_|refine run_done rfl ?_)
      rfl
theorem heldIssueS_ok (xs : List Iss) (k0 : Nat) (hs : smIssueS xs) (hk0 : k0 + tot stIss xs ≤ 4294967296) :
    CallsOK PP F_laws_heldIssueS [.v (.sl 10 ((mkAll mkIss stIss xs k0).map rIss)), .v (.int .i64 k0)] [.v (.int .i64 ((k0 + tot stIss xs : Nat) : Int))] := by
  obtain ⟨hlen, hall⟩ := hs
  refine S_laws_heldIssueS rfl (Nat.le_of_ble_eq_true rfl) ?_
  have hml := mkAll_len mkIss stIss xs k0
  have key : ∀ n : Nat, n ≤ xs.length → L_laws_heldIssueS_0 PP [(0, .v (.sl 10 ((mkAll mkIss stIss xs k0).map rIss))), (1, .v (.int .i64 ((k0 + tot stIss (xs.take n) : Nat) : Int))), (5, .v (.int .i64 n))] [.v (.int .i64 ((k0 + tot stIss xs : Nat) : Int))] := up xs.length (fun n ih hn => ?_)
  · repeat' (first|refine goM rfl ?_|refine goR rfl ?_|refine goX rfl ?_|refine goY rfl ?_)
    refine run_loopF rfl ?_
    exact key 0 (Nat.zero_le _)
  · repeat' (first|refine goM rfl ?_|refine goR rfl ?_|refine goX rfl ?_|refine goY rfl ?_)
    rw [List.length_map, hml]
    refine run_cnd_lt rfl (fun hk => ?_) (fun hk => ?_)
    · have ih := ih hk
      rw [tot_take stIss xs hk, ← Nat.add_assoc] at ih
      have hb := tot_take_le stIss xs hk
      have hkl : n < (mkAll mkIss stIss xs k0).length := by rw [hml]; exact hk
      have hg := mkAll_get mkIss stIss xs k0 n hk
      have hb2 : k0 + tot stIss (xs.take n) + stIss xs[n] ≤ 4294967296 := by omega
      clear hb hn
      generalize k0 + tot stIss (xs.take n) = K at ih hb2 hg ⊢
      have hrow : rIss ((mkAll mkIss stIss xs k0)[n]'hkl) = [dI ((K : Nat) : Int), dI ((K + 1 : Nat) : Int), dI ((K + 1 + 1 : Nat) : Int), dS (markT (K + 1 + 1 + 1)), .sl 2 ((mkAll mkClu stClu xs[n].puz.clues (K + 1 + 1 + 1 + 1)).map rClu), .sl 1 ((mkAll mkInt stInt xs[n].puz.seals (K + 1 + 1 + 1 + 1 + tot stClu xs[n].puz.clues)).map rI), dI ((K + 1 + 1 + 1 + 1 + tot stClu xs[n].puz.clues + tot stInt xs[n].puz.seals : Nat) : Int), dS (markT (K + 1 + 1 + 1 + 1 + tot stClu xs[n].puz.clues + tot stInt xs[n].puz.seals + 1)), dI ((K + 1 + 1 + 1 + 1 + tot stClu xs[n].puz.clues + tot stInt xs[n].puz.seals + 1 + 1 : Nat) : Int), dI ((K + 1 + 1 + 1 + 1 + tot stClu xs[n].puz.clues + tot stInt xs[n].puz.seals + 1 + 1 + 1 : Nat) : Int)] := by rw [hg]; rfl
      clear hg
      simp only [stIss] at hb2
      have w0 : IntKind.i64.wrap (((K : Nat) : Int) + 1) = ((K + 1 : Nat) : Int) := wsucc (by omega)
      have w1 : IntKind.i64.wrap (((K + 1 : Nat) : Int) + 1) = ((K + 1 + 1 : Nat) : Int) := wsucc (by omega)
      have w2 : IntKind.i64.wrap (((K + 1 + 1 : Nat) : Int) + 1) = ((K + 1 + 1 + 1 : Nat) : Int) := wsucc (by omega)
      have w3 : IntKind.i64.wrap (((K + 1 + 1 + 1 : Nat) : Int) + 1) = ((K + 1 + 1 + 1 + 1 : Nat) : Int) := wsucc (by omega)
      have w6 : IntKind.i64.wrap (((K + 1 + 1 + 1 + 1 + tot stClu xs[n].puz.clues + tot stInt xs[n].puz.seals : Nat) : Int) + 1) = ((K + 1 + 1 + 1 + 1 + tot stClu xs[n].puz.clues + tot stInt xs[n].puz.seals + 1 : Nat) : Int) := wsucc (by omega)
      have w7 : IntKind.i64.wrap (((K + 1 + 1 + 1 + 1 + tot stClu xs[n].puz.clues + tot stInt xs[n].puz.seals + 1 : Nat) : Int) + 1) = ((K + 1 + 1 + 1 + 1 + tot stClu xs[n].puz.clues + tot stInt xs[n].puz.seals + 1 + 1 : Nat) : Int) := wsucc (by omega)
      have w8 : IntKind.i64.wrap (((K + 1 + 1 + 1 + 1 + tot stClu xs[n].puz.clues + tot stInt xs[n].puz.seals + 1 + 1 : Nat) : Int) + 1) = ((K + 1 + 1 + 1 + 1 + tot stClu xs[n].puz.clues + tot stInt xs[n].puz.seals + 1 + 1 + 1 : Nat) : Int) := wsucc (by omega)
      have w9 : IntKind.i64.wrap (((K + 1 + 1 + 1 + 1 + tot stClu xs[n].puz.clues + tot stInt xs[n].puz.seals + 1 + 1 + 1 : Nat) : Int) + 1) = ((K + 1 + 1 + 1 + 1 + tot stClu xs[n].puz.clues + tot stInt xs[n].puz.seals + 1 + 1 + 1 + 1 : Nat) : Int) := wsucc (by omega)
      repeat' (first|refine mid_idxm rfl rfl hkl rfl ?_|rw [hrow]|refine run_neI rfl ?_|refine goM rfl ?_|refine goR rfl ?_|refine goX rfl ?_|refine goY rfl ?_)
      rw [w0]
      repeat' (first|refine mid_idxm rfl rfl hkl rfl ?_|rw [hrow]|refine run_neI rfl ?_|refine goM rfl ?_|refine goR rfl ?_|refine goX rfl ?_|refine goY rfl ?_)
      rw [w1]
      repeat' (first|refine mid_idxm rfl rfl hkl rfl ?_|rw [hrow]|refine run_neI rfl ?_|refine goM rfl ?_|refine goR rfl ?_|refine goX rfl ?_|refine goY rfl ?_)
      rw [w2]
      repeat' (first|refine mid_idxm rfl rfl hkl rfl ?_|rw [hrow]|refine run_neS rfl ?_|refine goM rfl ?_|refine goR rfl ?_|refine goX rfl ?_|refine goY rfl ?_|refine goC (markText_ok (K + 1 + 1 + 1) (by omega)) rfl rfl rfl rfl ?_)
      rw [w3]
      repeat' (first|refine mid_idxm rfl rfl hkl rfl ?_|rw [hrow]|refine run_sz rfl (fun h => absurd h (by omega)) (fun _ => ?_)|refine goM rfl ?_|refine goR rfl ?_|refine goX rfl ?_|refine goY rfl ?_|refine goC (heldClueS_ok xs[n].puz.clues (K + 1 + 1 + 1 + 1) ((hall _ (List.getElem_mem hk)).2.1) (by omega)) rfl rfl rfl rfl ?_)
      repeat' (first|refine mid_idxm rfl rfl hkl rfl ?_|rw [hrow]|refine run_sz rfl (fun h => absurd h (by omega)) (fun _ => ?_)|refine goM rfl ?_|refine goR rfl ?_|refine goX rfl ?_|refine goY rfl ?_|refine goC (heldIntS_ok xs[n].puz.seals (K + 1 + 1 + 1 + 1 + tot stClu xs[n].puz.clues) ((hall _ (List.getElem_mem hk)).2.2) (by omega)) rfl rfl rfl rfl ?_)
      repeat' (first|refine mid_idxm rfl rfl hkl rfl ?_|rw [hrow]|refine run_neI rfl ?_|refine goM rfl ?_|refine goR rfl ?_|refine goX rfl ?_|refine goY rfl ?_)
      rw [w6]
      repeat' (first|refine mid_idxm rfl rfl hkl rfl ?_|rw [hrow]|refine run_neS rfl ?_|refine goM rfl ?_|refine goR rfl ?_|refine goX rfl ?_|refine goY rfl ?_|refine goC (markText_ok (K + 1 + 1 + 1 + 1 + tot stClu xs[n].puz.clues + tot stInt xs[n].puz.seals + 1) (by omega)) rfl rfl rfl rfl ?_)
      rw [w7]
      repeat' (first|refine mid_idxm rfl rfl hkl rfl ?_|rw [hrow]|refine run_neI rfl ?_|refine goM rfl ?_|refine goR rfl ?_|refine goX rfl ?_|refine goY rfl ?_)
      rw [w8]
      repeat' (first|refine run_neI rfl ?_|refine goM rfl ?_|refine goR rfl ?_|refine goX rfl ?_|refine goY rfl ?_)
      rw [w9]
      skip
      rw [wsucc (show n < 9223372036854775807 by omega)]
      refine run_backF rfl ?_
      have he : K + 1 + 1 + 1 + 1 + tot stClu xs[n].puz.clues + tot stInt xs[n].puz.seals + 1 + 1 + 1 + 1 = K + stIss xs[n] := by simp only [stIss] <;> omega
      rw [he]
      exact ih (by omega)
    · have e : n = xs.length := by omega
      subst e
      rw [List.take_length]
      repeat' (first|refine goM rfl ?_|refine goR rfl ?_|refine goX rfl ?_|refine goY rfl ?_)
      (first|refine run_ret rfl ?_|refine run_done rfl ?_)
      rfl
end Go.Rd

namespace Go.Rd
open Go.Proofs
set_option linter.unusedSimpArgs false
set_option linter.unusedVariables false
set_option maxRecDepth 10000
set_option maxHeartbeats 2000000
noncomputable def mkDra (x : Dra) (k : Nat) : Dra := ⟨x.grid, x.fill, mkAll mkClu stClu x.clues k, x.ver⟩
noncomputable def mkHou (h : Hou) (k : Nat) : Hou :=
  ⟨mkAll mkLis stLis h.list k, mkAll mkMea stMea h.dict (k + tot stLis h.list), mkDra h.desk (k + tot stLis h.list + tot stMea h.dict),
   mkAll mkIss stIss h.issues (k + tot stLis h.list + tot stMea h.dict + tot stClu h.desk.clues),
   mkAll mkUse stUse h.uses (k + tot stLis h.list + tot stMea h.dict + tot stClu h.desk.clues + tot stIss h.issues),
   mkAll mkCor stCor h.cors (k + tot stLis h.list + tot stMea h.dict + tot stClu h.desk.clues + tot stIss h.issues + tot stUse h.uses),
   mkAll mkEnt stEnt h.ents (k + tot stLis h.list + tot stMea h.dict + tot stClu h.desk.clues + tot stIss h.issues + tot stUse h.uses + tot stCor h.cors), h.now⟩
theorem stHou_eq (h : Hou) (k : Nat) : k + tot stLis h.list + tot stMea h.dict + tot stClu h.desk.clues + tot stIss h.issues + tot stUse h.uses + tot stCor h.cors + tot stEnt h.ents = k + stHou h := by unfold stHou; omega
theorem markClue_dp (x : Clu) (k0 : Nat) (hs : smClue x) (hk0 : k0 + tot stStp x.play ≤ 4294967296) :
    CallsH PP F_laws_markClue [hStp x.play] [hStp (mkAll mkStp stStp x.play k0)] (fun u => [.agg (vClu x (u 0)), .v (.int .i64 k0)]) (fun _ => [.v (.int .i64 ((k0 + tot stStp x.play : Nat) : Int))]) := by
  refine SQ_laws_markClue [1000] [1000] (fun _ => rfl) (fun _ => ⟨Nat.le_of_ble_eq_true rfl, by simp⟩) (by simp) (by simp) (fun u Q hQ => ?_)
  obtain ⟨uv, ub⟩ := u
  repeat' (first|refine goM rfl ?_|refine goR rfl ?_|refine goX rfl ?_|refine goY rfl ?_)
  refine mid_callH1t (m0 := 1000) (args := fun v => [.v (.val v), .v (.int .i64 (k0 : Int))]) (markStepS_ok x.play k0 hs hk0) rfl (by decide) rfl rfl rfl rfl rfl (by decide) (fun bs => ?_)
  repeat' (first|refine goM rfl ?_|refine goR rfl ?_|refine goX rfl ?_|refine goY rfl ?_)
  exact .ret (hQ _ ⟨(uv, fun _ => bs), rfl, fun _ _ => rfl, rfl, trivial⟩)
theorem markDraft_dp (x : Dra) (k0 : Nat) (hs : smDraft x) (hk0 : k0 + tot stClu x.clues ≤ 4294967296) :
    CallsH PP F_laws_markDraft [hClu x.clues] [hClu (mkAll mkClu stClu x.clues k0)] (fun u => [.agg (vDra x (u 0)), .v (.int .i64 k0)]) (fun _ => [.v (.int .i64 ((k0 + tot stClu x.clues : Nat) : Int))]) := by
  refine SQ_laws_markDraft [1000] [1000] (fun _ => rfl) (fun _ => ⟨Nat.le_of_ble_eq_true rfl, by simp⟩) (by simp) (by simp) (fun u Q hQ => ?_)
  obtain ⟨uv, ub⟩ := u
  repeat' (first|refine goM rfl ?_|refine goR rfl ?_|refine goX rfl ?_|refine goY rfl ?_)
  refine mid_callH1t (m0 := 1000) (args := fun v => [.v (.val v), .v (.int .i64 (k0 : Int))]) (markClueS_ok x.clues k0 hs.2 hk0) rfl (by decide) rfl rfl rfl rfl rfl (by decide) (fun bs => ?_)
  repeat' (first|refine goM rfl ?_|refine goR rfl ?_|refine goX rfl ?_|refine goY rfl ?_)
  exact .ret (hQ _ ⟨(uv, fun _ => bs), rfl, fun _ _ => rfl, rfl, trivial⟩)
theorem markHouse_dp (h : Hou) (k : Nat) (hs : smHouse h) (hk0 : k + stHou h ≤ 4294967296) :
    CallsH PP F_laws_markHouse (hHou h) (hHou (mkHou h k)) (fun u => [.agg (vHou h (u 0) (u 1) (u 2) (u 3) (u 4) (u 5) (u 6)), .v (.int .i64 k)]) (fun _ => [.v (.int .i64 ((k + stHou h : Nat) : Int))]) := by
  obtain ⟨h1, h2, h3, h4, h5, h6, h7⟩ := hs
  have he := stHou_eq h k
  refine SQ_laws_markHouse [1000, 1001, 1002, 1003, 1004, 1005, 1006] [1000, 1001, 1002, 1003, 1004, 1005, 1006] (fun _ => rfl) (fun _ => ⟨Nat.le_of_ble_eq_true rfl, by simp⟩) (by simp) (by simp) (fun u Q hQ => ?_)
  rw [← he] at hQ
  rw [← he] at hk0
  obtain ⟨uv, ub⟩ := u
  repeat' (first|refine goM rfl ?_|refine goR rfl ?_|refine goX rfl ?_|refine goY rfl ?_)
  refine mid_callH1t (m0 := 1000) (args := fun v => [.v (.val v), .v (.int .i64 ((k : Nat) : Int))]) (markListedS_ok h.list k h1 (by omega)) rfl (by decide) rfl rfl rfl rfl rfl (by decide) (fun b0 => ?_)
  repeat' (first|refine goM rfl ?_|refine goR rfl ?_|refine goX rfl ?_|refine goY rfl ?_)
  refine mid_callH1t (m0 := 1001) (args := fun v => [.v (.val v), .v (.int .i64 ((k + tot stLis h.list : Nat) : Int))]) (markMeaningS_ok h.dict _ h2 (by omega)) rfl (by decide) rfl rfl rfl rfl rfl (by decide) (fun b1 => ?_)
  repeat' (first|refine goM rfl ?_|refine goR rfl ?_|refine goX rfl ?_|refine goY rfl ?_)
  refine mid_callH1t (m0 := 1002) (args := fun v => [.agg (vDra h.desk v), .v (.int .i64 ((k + tot stLis h.list + tot stMea h.dict : Nat) : Int))]) (markDraft_dp h.desk _ h3 (by omega)) rfl (by decide) rfl rfl rfl rfl rfl (by decide) (fun b2 => ?_)
  repeat' (first|refine goM rfl ?_|refine goR rfl ?_|refine goX rfl ?_|refine goY rfl ?_)
  refine mid_callH1t (m0 := 1003) (args := fun v => [.v (.val v), .v (.int .i64 ((k + tot stLis h.list + tot stMea h.dict + tot stClu h.desk.clues : Nat) : Int))]) (markIssueS_ok h.issues _ h4 (by omega)) rfl (by decide) rfl rfl rfl rfl rfl (by decide) (fun b3 => ?_)
  repeat' (first|refine goM rfl ?_|refine goR rfl ?_|refine goX rfl ?_|refine goY rfl ?_)
  refine mid_callH1t (m0 := 1004) (args := fun v => [.v (.val v), .v (.int .i64 ((k + tot stLis h.list + tot stMea h.dict + tot stClu h.desk.clues + tot stIss h.issues : Nat) : Int))]) (markUsedS_ok h.uses _ h5 (by omega)) rfl (by decide) rfl rfl rfl rfl rfl (by decide) (fun b4 => ?_)
  repeat' (first|refine goM rfl ?_|refine goR rfl ?_|refine goX rfl ?_|refine goY rfl ?_)
  refine mid_callH1t (m0 := 1005) (args := fun v => [.v (.val v), .v (.int .i64 ((k + tot stLis h.list + tot stMea h.dict + tot stClu h.desk.clues + tot stIss h.issues + tot stUse h.uses : Nat) : Int))]) (markCorrectionS_ok h.cors _ h6 (by omega)) rfl (by decide) rfl rfl rfl rfl rfl (by decide) (fun b5 => ?_)
  repeat' (first|refine goM rfl ?_|refine goR rfl ?_|refine goX rfl ?_|refine goY rfl ?_)
  refine mid_callH1t (m0 := 1006) (args := fun v => [.v (.val v), .v (.int .i64 ((k + tot stLis h.list + tot stMea h.dict + tot stClu h.desk.clues + tot stIss h.issues + tot stUse h.uses + tot stCor h.cors : Nat) : Int))]) (markEntryS_ok h.ents _ h7 (by omega)) rfl (by decide) rfl rfl rfl rfl rfl (by decide) (fun b6 => ?_)
  repeat' (first|refine goM rfl ?_|refine goR rfl ?_|refine goX rfl ?_|refine goY rfl ?_)
  exact .ret (hQ _ ⟨(uv, selV b0 b1 b2 b3 b4 b5 b6), rfl, fun _ _ => rfl, rfl, rfl, rfl, rfl, rfl, rfl, rfl, trivial⟩)
theorem heldDraft_ok (x : Dra) (k0 : Nat) (hs : smDraft x) (hk0 : k0 + tot stClu x.clues ≤ 4294967296) :
    CallsOK PP F_laws_heldDraft [.agg (rDra (mkDra x k0)), .v (.int .i64 k0)] [.v (.int .i64 ((k0 + tot stClu x.clues : Nat) : Int))] := by
  refine S_laws_heldDraft rfl (Nat.le_of_ble_eq_true rfl) ?_
  simp only [rDra, mkDra]
  repeat' (first|refine run_sz rfl (fun h => absurd h (by omega)) (fun _ => ?_)|refine goM rfl ?_|refine goR rfl ?_|refine goX rfl ?_|refine goY rfl ?_|refine goC (heldClueS_ok x.clues k0 hs.2 hk0) rfl rfl rfl rfl ?_)
  (first|refine run_ret rfl ?_|refine run_done rfl ?_)
  rfl
theorem heldHouse_ok (h : Hou) (k : Nat) (hs : smHouse h) (hk0 : k + stHou h ≤ 4294967296) :
    CallsOK PP F_laws_heldHouse [.agg (rHou (mkHou h k)), .v (.int .i64 k)] [.v (.int .i64 ((k + stHou h : Nat) : Int))] := by
  obtain ⟨h1, h2, h3, h4, h5, h6, h7⟩ := hs
  have he := stHou_eq h k
  rw [← he] at hk0 ⊢
  refine S_laws_heldHouse rfl (Nat.le_of_ble_eq_true rfl) ?_
  have hd := heldDraft_ok h.desk (k + tot stLis h.list + tot stMea h.dict) h3 (by omega)
  simp only [rHou, mkHou]
  simp only [rDra] at hd
  repeat' (first|refine run_sz rfl (fun h => absurd h (by omega)) (fun _ => ?_)|refine goM rfl ?_|refine goR rfl ?_|refine goX rfl ?_|refine goY rfl ?_|refine goC (heldListedS_ok h.list k h1 (by omega)) rfl rfl rfl rfl ?_|refine goC (heldMeaningS_ok h.dict _ h2 (by omega)) rfl rfl rfl rfl ?_|refine goC (hd) rfl rfl rfl rfl ?_|refine goC (heldIssueS_ok h.issues _ h4 (by omega)) rfl rfl rfl rfl ?_|refine goC (heldUsedS_ok h.uses _ h5 (by omega)) rfl rfl rfl rfl ?_|refine goC (heldCorrectionS_ok h.cors _ h6 (by omega)) rfl rfl rfl rfl ?_|refine goC (heldEntryS_ok h.ents _ h7 (by omega)) rfl rfl rfl rfl ?_)
  (first|refine run_ret rfl ?_|refine run_done rfl ?_)
  rfl
end Go.Rd

namespace Go.Rd
open Go.Proofs
set_option linter.unusedSimpArgs false
set_option linter.unusedVariables false
set_option maxRecDepth 20000
set_option maxHeartbeats 8000000
theorem sm_desk {h : Hou} (hc : cHou h ≤ 1048576) : smDra h.desk := by
  unfold cHou cDra at hc
  exact ⟨by omega, len_le (f := cClu) (by omega), fun c hc' => len_le (mem_le (f := cClu) (n := 1048576) (by omega) hc')⟩
theorem sm_setClue {x : Dra} {i : Int} {c : Clu} (h : smDraft x) (hc : smClue c) : smDraft (setClue x i c) := by
  unfold setClue
  split
  · refine ⟨trivial, ⟨by simpa using h.2.1, fun c' hc' => ?_⟩⟩
    rcases List.mem_or_eq_of_mem_set hc' with h' | h'
    · exact h.2.2 c' h'
    · rw [h']; exact hc
  · exact h
theorem sm_onDesk {h : Hou} {d : Dra} (hs : smHouse h) (hd : smDraft d) : smHouse (onDesk h d) := ⟨hs.1, hs.2.1, hd, hs.2.2.2⟩
theorem StepClue_ok (h : Hou) (i : Int) (c : Clu) (hs : smHouse h) (hd : smDra h.desk) (hc : smClue c) : CallsOK PP F_impl_StepClue [.agg (rHou h), .v (.int .i64 i), .agg (rClu c)] [.agg (rHou (onDesk h (setClue h.desk i c))), .v (.bool (setOk h.desk i c))] :=
  callsOK_frz (StepClue_dp h i c hs hd hc) (fun v => ⟨.agg ⟨frH 0 rfl (fz_lis _), frH 1 rfl (fz_mea _), .same _, .same _, .same _, .same _, frH 2 rfl (fz_clu _), .same _, frH 3 rfl (fz_iss _), frH 4 rfl (fz_use _), frH 5 rfl (fz_cor _), frH 6 rfl (fz_ent _), .same _, trivial⟩, .v (.same _), trivial⟩)
theorem tot_set_le {α : Type} (f : α → Nat) (c : α) : ∀ (l : List α) (n : Nat), tot f (l.set n c) ≤ tot f l + f c
  | [], n => by simp [tot]
  | x :: l, 0 => by rw [List.set_cons_zero, tot_cons, tot_cons]; omega
  | x :: l, n + 1 => by rw [List.set_cons_succ, tot_cons, tot_cons]; have := tot_set_le f c l n; omega
theorem st_setClue (h : Hou) (i : Int) (c : Clu) : stHou (onDesk h (setClue h.desk i c)) ≤ stHou h + stClu c := by
  unfold setClue
  split
  · have := tot_set_le stClu c h.desk.clues i.toNat
    simp only [stHou, onDesk]; omega
  · simp only [stHou, onDesk]; omega
theorem law_StepClue (h : Hou) (i : Int) (c : Clu) (hb : bgHouse h) (hbc : bgClue c) : CallsOK PP F_laws_FnExactStepClue [.agg (rHou h), .v (.int .i64 i), .agg (rClu c)] [.v (.bool true)] := by
  refine S_laws_FnExactStepClue rfl (Nat.le_of_ble_eq_true rfl) ?_
  have z1 := szHouse_ok h 1048576 hb
  have l1 := less_hou h hb 1048576 (by decide) (by decide)
  generalize sz_House h 1048576 = L1 at z1 l1
  simp only [rHou] at z1
  simp only [rHou, rClu]
  repeat' (first|refine goM rfl ?_|refine goR rfl ?_|refine goX rfl ?_|refine goY rfl ?_|refine goC (z1) rfl rfl rfl rfl ?_)
  refine run_sz rfl (fun _ => ?_) (fun h0 => ?_)
  · repeat' (first|refine goM rfl ?_|refine goR rfl ?_|refine goX rfl ?_|refine goY rfl ?_)
    (first|refine run_ret rfl ?_|refine run_done rfl ?_)
    rfl
  have l1 := l1 (by omega)
  have z2 := szClue_ok c L1 hbc
  have l2 := less_clu c hbc L1 (by omega) (by omega)
  generalize sz_Clue c L1 = L2 at z2 l2
  simp only [rClu] at z2
  repeat' (first|refine goM rfl ?_|refine goR rfl ?_|refine goX rfl ?_|refine goY rfl ?_|refine goC (z2) rfl rfl rfl rfl ?_)
  refine run_sz rfl (fun _ => ?_) (fun h0' => ?_)
  · repeat' (first|refine goM rfl ?_|refine goR rfl ?_|refine goX rfl ?_|refine goY rfl ?_)
    (first|refine run_ret rfl ?_|refine run_done rfl ?_)
    rfl
  have l2 := l2 (by omega)
  have hcH : cHou h ≤ 1048576 := by omega
  have hcC : cClu c ≤ 1048576 := by omega
  clear z1 z2 l1 l2 h0 h0'
  have hs := sm_hou hcH
  have hc := sm_clu hcC
  have hd := sm_desk hcH
  have hst := st_hou hcH
  have hstc : tot stStp c.play ≤ 4194304 := by rw [tot_stp]; have := hc.1; omega
  have hst' : stHou (onDesk h (setClue h.desk i c)) ≤ 4194304000 := by
    have := st_setClue h i c
    unfold stClu at this; omega
  have hs' := sm_onDesk hs (sm_setClue (i := i) hs.2.2.1 hc)
  have e1 := toHouse_ok h hs
  have e2 := toClue_ok c hc
  have e3 := StepClue_ok' h i c hs hd hc
  have e4 := toHouse_dp h hs
  have e5 := toClue_dp c hc
  have e6 := StepClue_dp h i c hs hd hc
  have e7 := StepClue_ok h i c hs hd hc
  generalize onDesk h (setClue h.desk i c) = y at hst' hs' e3 e6 e7
  generalize setOk h.desk i c = b at e3 e6 e7
  have q1 := eqHouse_ok h hs
  have q2 := eqHouse_ok y hs'
  have q3 := eqClue_ok c hc
  simp only [rHou, rClu] at e1 e2 e3 e4 e5 e6 e7 q1 q2 q3
  repeat' (first|refine goAc e1 rfl rfl rfl rfl ?_|refine goAc e2 rfl rfl rfl rfl ?_|refine goAc e3 rfl rfl rfl rfl ?_|refine goM rfl ?_|refine goR rfl ?_|refine goX rfl ?_|refine goA rfl ?_|refine any_run ?_|refine any_nil (by kernel_rfl) rfl ?_)
  refine mid_callV7t (res := fun v0 v1 v2 v3 v4 v5 v6 => [.agg (vHou h v0 v1 v2 v3 v4 v5 v6)]) 1000 1001 1002 1003 1004 1005 1006 e4 rfl rfl (vwA_same _) (fun _ _ _ _ _ _ _ => rfl) (fun _ _ _ _ _ _ _ => rfl) (fun _ _ _ _ _ _ _ => rfl)
    ⟨fr_lis _, fr_mea _, fr_clu _, fr_iss _, fr_use _, fr_cor _, fr_ent _⟩ (by decide) ⟨rfl, rfl, rfl, rfl, rfl, rfl, rfl⟩ rfl (by decide) (fun v0 v1 v2 v3 v4 v5 v6 b0 b1 b2 b3 b4 b5 b6 => ?_)
  repeat' (first|refine goM rfl ?_|refine goR rfl ?_|refine goX rfl ?_|refine goY rfl ?_)
  refine mid_callV1t (res := fun v => [.agg (vClu c v)]) 1007 e5 rfl rfl (vwA_same _) (fun _ => rfl) (fun _ => rfl) (fun _ => rfl) (fr_stp _) (by simp) rfl rfl (by decide) (fun v7 b7 => ?_)
  repeat' (first|refine goM rfl ?_|refine goR rfl ?_|refine goX rfl ?_|refine goY rfl ?_)
  refine mid_callV7t (res := fun v0 v1 v2 v3 v4 v5 v6 => [.agg (vHou y v0 v1 v2 v3 v4 v5 v6), .v (.bool b)]) 1008 1009 1010 1011 1012 1013 1014 e6 rfl rfl
    ⟨.agg ⟨.heap (m := 1000) rfl (fz_lis _), .heap (m := 1001) rfl (fz_mea _), .same _, .same _, .same _, .same _, .heap (m := 1002) rfl (fz_clu _), .same _, .heap (m := 1003) rfl (fz_iss _), .heap (m := 1004) rfl (fz_use _), .heap (m := 1005) rfl (fz_cor _), .heap (m := 1006) rfl (fz_ent _), .same _, trivial⟩, .same _, .agg ⟨.same _, .heap (m := 1007) rfl (fz_stp _), trivial⟩, trivial⟩
    (fun _ _ _ _ _ _ _ => rfl) (fun _ _ _ _ _ _ _ => rfl) (fun _ _ _ _ _ _ _ => rfl)
    ⟨fr_lis _, fr_mea _, fr_clu _, fr_iss _, fr_use _, fr_cor _, fr_ent _⟩ (by decide) ⟨rfl, rfl, rfl, rfl, rfl, rfl, rfl⟩ rfl (by decide) (fun w0 w1 w2 w3 w4 w5 w6 d0 d1 d2 d3 d4 d5 d6 => ?_)
  repeat' (first|refine goM rfl ?_|refine goR rfl ?_|refine goX rfl ?_|refine goY rfl ?_)
  refine mid_callV0 q2 rfl rfl ⟨.agg ⟨.heap (m := 1008) rfl (fz_lis _), .heap (m := 1009) rfl (fz_mea _), .same _, .same _, .same _, .same _, .heap (m := 1010) rfl (fz_clu _), .same _, .heap (m := 1011) rfl (fz_iss _), .heap (m := 1012) rfl (fz_use _), .heap (m := 1013) rfl (fz_cor _), .heap (m := 1014) rfl (fz_ent _), .same _, trivial⟩, .same _, trivial⟩ rfl rfl rfl rfl ?_
  repeat' (first|refine goM rfl ?_|refine goY rfl ?_)
  refine run_cnd rfl (fun hb => absurd hb (by cases b <;> decide)) (fun _ => ?_)
  repeat' (first|refine goAc e1 rfl rfl rfl rfl ?_|refine goR rfl ?_|refine goA rfl ?_|refine any_run ?_)
  refine goAv [1000, 1001, 1002, 1003, 1004, 1005, 1006] q1 rfl rfl ⟨.agg ⟨.heap (m := 1000) rfl (fz_lis _), .heap (m := 1001) rfl (fz_mea _), .same _, .same _, .same _, .same _, .heap (m := 1002) rfl (fz_clu _), .same _, .heap (m := 1003) rfl (fz_iss _), .heap (m := 1004) rfl (fz_use _), .heap (m := 1005) rfl (fz_cor _), .heap (m := 1006) rfl (fz_ent _), .same _, trivial⟩, .same _, trivial⟩ rfl rfl rfl rfl ?_
  repeat' (first|refine goAc e2 rfl rfl rfl rfl ?_|refine goR rfl ?_|refine goA rfl ?_|refine any_run ?_|refine any_nil (by kernel_rfl) rfl ?_)
  refine goAv [1007] q3 rfl rfl ⟨.agg ⟨.same _, .heap (m := 1007) rfl (fz_stp _), trivial⟩, .same _, trivial⟩ rfl rfl rfl rfl ?_
  repeat' (first|refine goM rfl ?_|refine goR rfl ?_|refine goX rfl ?_|refine goY rfl ?_|refine goA rfl ?_|refine any_nil (by kernel_rfl) rfl ?_)
  have m1 := markHouse_dp h 1 hs (by omega)
  have m2 := markClue_dp c (1 + stHou h) hc (by omega)
  refine mid_callH7t (m0 := 1000) (m1 := 1001) (m2 := 1002) (m3 := 1003) (m4 := 1004) (m5 := 1005) (m6 := 1006) (args := fun v0 v1 v2 v3 v4 v5 v6 => [.agg (vHou h v0 v1 v2 v3 v4 v5 v6), .v (.int .i64 ((1 : Nat) : Int))]) m1 ⟨rfl, rfl, rfl, rfl, rfl, rfl, rfl⟩ (by decide) rfl rfl rfl rfl rfl (by decide) (fun f0 f1 f2 f3 f4 f5 f6 => ?_)
  repeat' (first|refine goM rfl ?_|refine goR rfl ?_|refine goX rfl ?_|refine goY rfl ?_)
  refine mid_callH1t (m0 := 1007) (args := fun v => [.agg (vClu c v), .v (.int .i64 ((1 + stHou h : Nat) : Int))]) m2 rfl (by decide) rfl rfl rfl rfl rfl (by decide) (fun f7 => ?_)
  repeat' (first|refine goM rfl ?_|refine goR rfl ?_|refine goX rfl ?_|refine goY rfl ?_)
  refine mid_callV0 q2 rfl rfl ⟨.agg ⟨.heap (m := 1008) rfl (fz_lis _), .heap (m := 1009) rfl (fz_mea _), .same _, .same _, .same _, .same _, .heap (m := 1010) rfl (fz_clu _), .same _, .heap (m := 1011) rfl (fz_iss _), .heap (m := 1012) rfl (fz_use _), .heap (m := 1013) rfl (fz_cor _), .heap (m := 1014) rfl (fz_ent _), .same _, trivial⟩, .same _, trivial⟩ rfl rfl rfl rfl ?_
  repeat' (first|refine goM rfl ?_|refine goY rfl ?_)
  refine run_cnd rfl (fun hb => absurd hb (by cases b <;> decide)) (fun _ => ?_)
  repeat' (first|refine goM rfl ?_|refine goR rfl ?_|refine goX rfl ?_|refine goY rfl ?_)
  have m3 := markHouse_dp y 1 hs' (by omega)
  have m4 := heldHouse_ok y 1 hs' (by omega)
  simp only [rHou] at m4
  refine mid_callH7t (m0 := 1008) (m1 := 1009) (m2 := 1010) (m3 := 1011) (m4 := 1012) (m5 := 1013) (m6 := 1014) (args := fun v0 v1 v2 v3 v4 v5 v6 => [.agg (vHou y v0 v1 v2 v3 v4 v5 v6), .v (.int .i64 ((1 : Nat) : Int))]) m3 ⟨rfl, rfl, rfl, rfl, rfl, rfl, rfl⟩ (by decide) rfl rfl rfl rfl rfl (by decide) (fun g0 g1 g2 g3 g4 g5 g6 => ?_)
  repeat' (first|refine goM rfl ?_|refine goR rfl ?_|refine goX rfl ?_|refine goY rfl ?_)
  refine mid_callV0 m4 rfl rfl ⟨.agg ⟨.heap (m := 1008) rfl (fz_lis _), .heap (m := 1009) rfl (fz_mea _), .same _, .same _, .same _, .same _, .heap (m := 1010) rfl (fz_clu _), .same _, .heap (m := 1011) rfl (fz_iss _), .heap (m := 1012) rfl (fz_use _), .heap (m := 1013) rfl (fz_cor _), .heap (m := 1014) rfl (fz_ent _), .same _, trivial⟩, .same _, trivial⟩ rfl rfl rfl rfl ?_
  repeat' (first|refine run_sz rfl (fun h => absurd h (by omega)) (fun _ => ?_)|refine run_neI rfl ?_|refine goAc e1 rfl rfl rfl rfl ?_|refine goAc e2 rfl rfl rfl rfl ?_|refine goAc e7 rfl rfl rfl rfl ?_|refine goM rfl ?_|refine goR rfl ?_|refine goX rfl ?_|refine goY rfl ?_|refine goA rfl ?_|refine any_run ?_|refine any_nil (by kernel_rfl) rfl ?_|refine goC (q2) rfl rfl rfl rfl ?_)
  refine run_cnd rfl (fun hb => absurd hb (by cases b <;> decide)) (fun _ => ?_)
  repeat' (first|refine goM rfl ?_|refine goR rfl ?_|refine goX rfl ?_|refine goY rfl ?_)
  refine mid_callV0 m4 rfl rfl ⟨.agg ⟨.heap (m := 1008) rfl (fz_lis _), .heap (m := 1009) rfl (fz_mea _), .same _, .same _, .same _, .same _, .heap (m := 1010) rfl (fz_clu _), .same _, .heap (m := 1011) rfl (fz_iss _), .heap (m := 1012) rfl (fz_use _), .heap (m := 1013) rfl (fz_cor _), .heap (m := 1014) rfl (fz_ent _), .same _, trivial⟩, .same _, trivial⟩ rfl rfl rfl rfl ?_
  repeat' (first|refine run_sz rfl (fun h => absurd h (by omega)) (fun _ => ?_)|refine run_neI rfl ?_|refine goM rfl ?_|refine goR rfl ?_|refine goX rfl ?_|refine goY rfl ?_)
  (first|refine run_ret rfl ?_|refine run_done rfl ?_)
  rfl
end Go.Rd

namespace Go.Rd
open Go.RowKit
set_option linter.unusedVariables false
def zsGrd : Sh := .st [.int, .int, .str]
def zsLis : Sh := .st [.str, .int, .int, .int]
def zsMea : Sh := .st [.str, .int]
def zsStp : Sh := .st [.int, .str, .int, .int]
def shClu : List Sh := [.int, .sl 4 zsStp]
def zsClu : Sh := .st shClu
def zsDra : Sh := .st [zsGrd, .str, .sl 2 zsClu, .int]
def zsPuz : Sh := .st [zsGrd, .sl 2 zsClu, .sl 1 .int, .int]
def zsIss : Sh := .st [.int, zsPuz, .str, .int, .int]
def zsUse : Sh := .st [.str, .int]
def zsCor : Sh := .st [.int, .int, zsClu, .int]
def zsEnt : Sh := .st [.int, .int, .int, .str]
def shHou : List Sh := [.sl 4 zsLis, .sl 2 zsMea, zsDra, .sl 10 zsIss, .sl 2 zsUse, .sl 5 zsCor, .sl 4 zsEnt, .int]
theorem rowsP_of {α : Type} {f : α → List DV} {p : α → Prop} {sh : Sh} (h : ∀ r, HasSh sh r → ∃ x, r = f x ∧ p x) : ∀ {es : List (List DV)}, (∀ r ∈ es, HasSh sh r) → ∃ xs : List α, es = xs.map f ∧ ∀ x ∈ xs, p x
  | [], _ => ⟨[], rfl, by simp⟩
  | r :: rs, hr => by
    obtain ⟨x, hx, hp⟩ := h r (hr r (by simp))
    obtain ⟨xs, hxs, hps⟩ := rowsP_of h (es := rs) (fun q hq => hr q (by simp [hq]))
    exact ⟨x :: xs, by simp [hx, hxs], fun y hy => (List.mem_cons.1 hy).elim (fun e => e ▸ hp) (hps y)⟩
theorem reach_le : reachBytes ≤ 140737488355328 := by decide
theorem slP_of {α : Type} {f : α → List DV} {p : α → Prop} {z : Nat} {sh : Sh} (h : ∀ r, HasSh sh r → ∃ x, r = f x ∧ p x) {r : List DV} (hr : HasSh (.sl z sh) r) : ∃ xs : List α, r = [.sl z (xs.map f)] ∧ xs.length ≤ 140737488355328 ∧ ∀ x ∈ xs, p x := by
  simp only [HasSh] at hr
  obtain ⟨es, rfl, hl, he⟩ := hr
  obtain ⟨xs, rfl, hp⟩ := rowsP_of h he
  rw [List.length_map] at hl
  exact ⟨xs, rfl, Nat.le_trans hl reach_le, hp⟩
theorem strP_of {r : List DV} (hr : HasSh .str r) : ∃ s, r = [.str s] ∧ s.length ≤ 140737488355328 := by
  simp only [HasSh] at hr
  obtain ⟨s, rfl, hl⟩ := hr
  exact ⟨s, rfl, Nat.le_trans hl reach_le⟩
theorem intP_of {r : List DV} (hr : HasSh .int r) : ∃ n, r = [.int .i64 n] := by
  simp only [HasSh] at hr
  obtain ⟨n, rfl, _⟩ := hr
  exact ⟨n, rfl⟩
theorem grdP {r : List DV} (h : HasSh zsGrd r) : ∃ x : Grd, r = rGrd x ∧ bgGrid x := by
  simp only [zsGrd, HasSh, HasShs] at h
  obtain ⟨_, _, rfl, ⟨n, rfl, _⟩, _, _, rfl, ⟨m, rfl, _⟩, _, _, rfl, ⟨s, rfl, hs⟩, rfl⟩ := h
  exact ⟨⟨n, m, s⟩, rfl, Nat.le_trans hs reach_le⟩
theorem lisP (r : List DV) (h : HasSh zsLis r) : ∃ x : Lis, r = rLis x ∧ bgListed x := by
  simp only [zsLis, HasSh, HasShs] at h
  obtain ⟨_, _, rfl, ⟨s, rfl, hs⟩, _, _, rfl, ⟨n, rfl, _⟩, _, _, rfl, ⟨n3, rfl, _⟩, _, _, rfl, ⟨n4, rfl, _⟩, rfl⟩ := h
  exact ⟨⟨s, n, n3, n4⟩, rfl, Nat.le_trans hs reach_le⟩
theorem meaP (r : List DV) (h : HasSh zsMea r) : ∃ x : Mea, r = rMea x ∧ bgMeaning x := by
  simp only [zsMea, HasSh, HasShs] at h
  obtain ⟨_, _, rfl, ⟨s, rfl, hs⟩, _, _, rfl, ⟨n, rfl, _⟩, rfl⟩ := h
  exact ⟨⟨s, n⟩, rfl, Nat.le_trans hs reach_le⟩
theorem useP (r : List DV) (h : HasSh zsUse r) : ∃ x : Use, r = rUse x ∧ bgUsed x := by
  simp only [zsUse, HasSh, HasShs] at h
  obtain ⟨_, _, rfl, ⟨s, rfl, hs⟩, _, _, rfl, ⟨n, rfl, _⟩, rfl⟩ := h
  exact ⟨⟨s, n⟩, rfl, Nat.le_trans hs reach_le⟩
theorem stpP (r : List DV) (h : HasSh zsStp r) : ∃ x : Stp, r = rStp x ∧ bgStep x := by
  simp only [zsStp, HasSh, HasShs] at h
  obtain ⟨_, _, rfl, ⟨n, rfl, _⟩, _, _, rfl, ⟨s, rfl, hs⟩, _, _, rfl, ⟨n3, rfl, _⟩, _, _, rfl, ⟨n4, rfl, _⟩, rfl⟩ := h
  exact ⟨⟨n, s, n3, n4⟩, rfl, Nat.le_trans hs reach_le⟩
theorem entP (r : List DV) (h : HasSh zsEnt r) : ∃ x : Ent, r = rEnt x ∧ bgEntry x := by
  simp only [zsEnt, HasSh, HasShs] at h
  obtain ⟨_, _, rfl, ⟨n, rfl, _⟩, _, _, rfl, ⟨n3, rfl, _⟩, _, _, rfl, ⟨n4, rfl, _⟩, _, _, rfl, ⟨s, rfl, hs⟩, rfl⟩ := h
  exact ⟨⟨n, n3, n4, s⟩, rfl, Nat.le_trans hs reach_le⟩
theorem clu_of {r : List DV} (h : HasShs shClu r) : ∃ x : Clu, r = rClu x ∧ bgClue x := by
  simp only [shClu, HasShs] at h
  obtain ⟨_, _, rfl, h1, _, _, rfl, h2, rfl⟩ := h
  obtain ⟨n, rfl⟩ := intP_of h1
  obtain ⟨xs, rfl, hl, hp⟩ := slP_of stpP h2
  exact ⟨⟨n, xs⟩, rfl, hl, hp⟩
theorem cluP (r : List DV) (h : HasSh zsClu r) : ∃ x : Clu, r = rClu x ∧ bgClue x := by
  simp only [zsClu, HasSh] at h
  exact clu_of h
theorem draP {r : List DV} (h : HasSh zsDra r) : ∃ x : Dra, r = rDra x ∧ bgDraft x := by
  simp only [zsDra, HasSh, HasShs] at h
  obtain ⟨_, _, rfl, h1, _, _, rfl, ⟨s, rfl, hs⟩, _, _, rfl, h2, _, _, rfl, ⟨n, rfl, _⟩, rfl⟩ := h
  obtain ⟨g, rfl, hg⟩ := grdP h1
  obtain ⟨xs, h2e, hl, hp⟩ := slP_of cluP (z := 2) (by simp only [HasSh]; exact h2)
  subst h2e
  exact ⟨⟨g, s, xs, n⟩, rfl, hg, Nat.le_trans hs reach_le, hl, hp⟩
theorem puzP {r : List DV} (h : HasSh zsPuz r) : ∃ x : Puz, r = rPuz x ∧ bgPuzzle x := by
  simp only [zsPuz] at h
  rw [HasSh] at h
  simp only [HasShs] at h
  obtain ⟨_, _, rfl, h1, _, _, rfl, h2, _, _, rfl, h3, _, _, rfl, h4, rfl⟩ := h
  obtain ⟨g, rfl, hg⟩ := grdP h1
  obtain ⟨xs, rfl, hl, hp⟩ := slP_of cluP h2
  obtain ⟨is, rfl, hil, _⟩ := slP_of (f := rI) (p := fun _ => True) (fun r hr => by obtain ⟨n, rfl⟩ := intP_of hr; exact ⟨n, rfl, trivial⟩) h3
  obtain ⟨n, rfl⟩ := intP_of h4
  exact ⟨⟨g, xs, is, n⟩, rfl, hg, ⟨hl, hp⟩, hil, trivial⟩
theorem issP (r : List DV) (h : HasSh zsIss r) : ∃ x : Iss, r = rIss x ∧ bgIssue x := by
  simp only [zsIss] at h
  rw [HasSh] at h
  simp only [HasShs] at h
  obtain ⟨_, _, rfl, h1, _, _, rfl, h2, _, _, rfl, h3, _, _, rfl, h4, _, _, rfl, h5, rfl⟩ := h
  obtain ⟨n, rfl⟩ := intP_of h1
  obtain ⟨p, rfl, hp⟩ := puzP h2
  obtain ⟨s, rfl, hs⟩ := strP_of h3
  obtain ⟨n4, rfl⟩ := intP_of h4
  obtain ⟨n5, rfl⟩ := intP_of h5
  exact ⟨⟨n, p, s, n4, n5⟩, rfl, hp, hs⟩
theorem corP (r : List DV) (h : HasSh zsCor r) : ∃ x : Cor, r = rCor x ∧ bgCorrection x := by
  simp only [zsCor] at h
  rw [HasSh] at h
  simp only [HasShs] at h
  obtain ⟨_, _, rfl, h1, _, _, rfl, h2, _, _, rfl, h3, _, _, rfl, h4, rfl⟩ := h
  obtain ⟨n, rfl⟩ := intP_of h1
  obtain ⟨n2, rfl⟩ := intP_of h2
  obtain ⟨c, rfl, hc⟩ := cluP _ h3
  obtain ⟨n4, rfl⟩ := intP_of h4
  exact ⟨⟨n, n2, c, n4⟩, rfl, hc⟩
theorem hou_of {r : List DV} (h : HasShs shHou r) : ∃ x : Hou, r = rHou x ∧ bgHouse x := by
  simp only [shHou, HasShs] at h
  obtain ⟨_, _, rfl, h1, _, _, rfl, h2, _, _, rfl, h3, _, _, rfl, h4, _, _, rfl, h5, _, _, rfl, h6, _, _, rfl, h7, _, _, rfl, h8, rfl⟩ := h
  obtain ⟨a, rfl, ha, hap⟩ := slP_of lisP h1
  obtain ⟨b, rfl, hb, hbp⟩ := slP_of meaP h2
  obtain ⟨c, rfl, hc⟩ := draP h3
  obtain ⟨d, rfl, hd, hdp⟩ := slP_of issP h4
  obtain ⟨e, rfl, he, hep⟩ := slP_of useP h5
  obtain ⟨f, rfl, hf, hfp⟩ := slP_of corP h6
  obtain ⟨g, rfl, hg, hgp⟩ := slP_of entP h7
  obtain ⟨n, rfl⟩ := intP_of h8
  exact ⟨⟨a, b, c, d, e, f, g, n⟩, rfl, ⟨ha, hap⟩, ⟨hb, hbp⟩, hc, ⟨hd, hdp⟩, ⟨he, hep⟩, ⟨hf, hfp⟩, ⟨hg, hgp⟩⟩
theorem arg_int {P : Program} {w : World} {base : Nat} {t : TypeId} {v : Value} (hs : shOK P .int t = true) (hv : Value.okWide P w .any base t v) : ∃ n : Int, ArgOK (okW w) w (.v (.int .i64 n)) v := by
  simp only [shOK] at hs
  split at hs
  case h_2 => simp at hs
  rename_i hu
  obtain ⟨n, rfl⟩ := Go.WideShapes.okWide_int hu hv
  exact ⟨n, by simp [ArgOK, Rep]⟩
end Go.Rd
