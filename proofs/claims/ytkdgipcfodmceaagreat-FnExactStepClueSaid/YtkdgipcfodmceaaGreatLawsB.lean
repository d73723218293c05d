import Derived.Test.YtkdgipcfodmceaaGreatLawsA
import Derived.KernelRfl
/- Contracts of the functions that the law reaches. No condition. -/
set_option linter.unusedVariables false
set_option linter.unusedSimpArgs false
namespace Go.Rd
open Go.Proofs
set_option linter.unusedSimpArgs false
set_option linter.unusedVariables false
set_option maxRecDepth 10000
set_option maxHeartbeats 4000000
abbrev rIs (l : List Int) : List DV := [dInts l]
theorem layout_len (g : Grd) : (layout g).length = (slotsOf g).length := by simp [layout]
theorem layout_mem {g : Grd} {l : List Int} (h : l ∈ layout g) : l.length ≤ 6 := by
  simp only [layout, List.mem_map] at h
  obtain ⟨s, hs, rfl⟩ := h
  obtain ⟨_, i, n, h1, h2, h36, _, h6, _⟩ := slot_mem hs
  rw [cells_len, h2]; omega
theorem slotsAtGo_drop (c : Int) (ls : List (List Int)) {k : Nat} (h : k < ls.length) : slotsAtGo c (ls.drop k) k = (if ls[k].contains c then [(k : Int)] else []) ++ slotsAtGo c (ls.drop (k + 1)) (k + 1) := by
  rw [List.drop_eq_getElem_cons h]; rfl
theorem slotsAtGo_nil (c : Int) (ls : List (List Int)) {k : Nat} (h : ¬ k < ls.length) : slotsAtGo c (ls.drop k) k = [] := by
  rw [List.drop_eq_nil_of_le (by omega)]; rfl
theorem layout_ok (g : Grd) (hg0 : g.cells.length ≤ 1048576) : CallsOK PP F_impl_layout [.agg (rGrd g)] [.own T_sl_int 1 24 ((layout g).map rIs)] := by
  refine S_impl_layout rfl (Nat.le_of_ble_eq_true rfl) ?_
  have hsl := slots_len g
  have key : ∀ k : Nat, k ≤ (slotsOf g).length → L_impl_layout_0 PP [(1, .box (rGrd g)), (3, .own T_sl_int 1 24 (((slotsOf g).take k).map fun s => rIs (cellsOf g s))), (7, .v (dSlts (slotsOf g))), (8, .v (.int .i64 (slotsOf g).length)), (9, .v (.int .i64 k))] [.own T_sl_int 1 24 ((layout g).map rIs)] := up (slotsOf g).length (fun k ih hk0 => ?_)
  · repeat' (first|refine goM rfl ?_|refine goR rfl ?_|refine goX rfl ?_|refine goY rfl ?_|refine goC (SlotsOf_ok g hg0) rfl rfl rfl rfl ?_)
    simp only [List.length_map]
    refine run_loopF rfl ?_
    exact key 0 (by omega)
  · simp only [rGrd]
    repeat' (first|refine goM rfl ?_|refine goR rfl ?_|refine goX rfl ?_|refine goY rfl ?_)
    refine run_cnd_lt rfl (fun hk => ?_) (fun hk => ?_)
    · have ih := ih hk (by omega)
      rw [map_take_succ _ _ hk] at ih
      have hc := cells_ok g (slotsOf g)[k] (List.getElem_mem hk)
      simp only [rGrd, rSlt] at hc ih
      repeat' (first|refine mid_idxm rfl rfl hk rfl ?_|refine mid_app rfl rfl rfl (by decide) rfl (by simp; omega) (by simp; omega) ?_|refine goM rfl ?_|refine goR rfl ?_|refine goX rfl ?_|refine goY rfl ?_|refine goC (hc) rfl rfl rfl rfl ?_)
      refine run_backF rfl ?_
      rw [wsucc (by omega)]
      exact ih
    · repeat' (first|refine goM rfl ?_|refine goR rfl ?_|refine goX rfl ?_|refine goY rfl ?_)
      (first|refine run_ret rfl ?_|refine run_done rfl ?_)
      rw [List.take_of_length_le (by omega), layout, List.map_map]; rfl
theorem l8Has_ok (l : List Int) (v : Int) (hl : l.length ≤ 1048576) : CallsOK PP F_spec_l8Has [.v (dInts l), .v (.int .i64 v)] [.v (.bool (l.contains v))] := by
  refine S_spec_l8Has rfl (Nat.le_of_ble_eq_true rfl) ?_
  have key : ∀ k : Nat, L_spec_l8Has_0 PP [(0, .v (dInts l)), (1, .v (.int .i64 v)), (5, .v (.int .i64 k))] [.v (.bool ((l.drop k).any (v == ·)))] := up l.length (fun k ih => ?_)
  · repeat' (first|refine goM rfl ?_|refine goR rfl ?_|refine goX rfl ?_|refine goY rfl ?_)
    refine run_loopF rfl ?_
    rw [List.contains_eq_any_beq]
    exact key 0
  · repeat' (first|refine goM rfl ?_|refine goR rfl ?_|refine goX rfl ?_|refine goY rfl ?_)
    simp only [List.length_map]
    refine run_cnd_lt rfl (fun hk => ?_) (fun hk => ?_)
    · rw [any_drop _ l hk]
      repeat' (first|refine mid_idxm rfl rfl hk rfl ?_|refine goM rfl ?_|refine goR rfl ?_|refine goX rfl ?_|refine goY rfl ?_)
      (first | refine mid_gdT rfl rfl (fun hb => ?_) (fun hb => ?_) | refine mid_gdF rfl rfl (fun hb => ?_) (fun hb => ?_) | refine run_cnd rfl (fun hb => ?_) (fun hb => ?_)) <;> try rw [hb]
      · repeat' (first|refine goM rfl ?_|refine goR rfl ?_|refine goX rfl ?_|refine goY rfl ?_)
        (first|refine run_ret rfl ?_|refine run_done rfl ?_)
        rw [show (v == l[k]) = true by rw [Bool.beq_comm]; exact hb]; rfl
      · repeat' (first|refine goM rfl ?_|refine goR rfl ?_|refine goX rfl ?_|refine goY rfl ?_)
        refine run_backF rfl ?_
        rw [wsucc (by omega), show (v == l[k]) = false by rw [Bool.beq_comm]; exact hb, Bool.false_or]
        exact ih hk
    · repeat' (first|refine goM rfl ?_|refine goR rfl ?_|refine goX rfl ?_|refine goY rfl ?_)
      (first|refine run_ret rfl ?_|refine run_done rfl ?_)
      rw [any_drop_nil _ l hk]
theorem SlotsAt_ok (g : Grd) (hg0 : g.cells.length ≤ 1048576) (c : Int) : CallsOK PP F_impl_SlotsAt [.agg (rGrd g), .v (.int .i64 c)] [.own T_int 1 8 ((slotsAt g c).map rI)] := by
  refine S_impl_SlotsAt rfl (Nat.le_of_ble_eq_true rfl) ?_
  have hsl := slots_len g
  have hll := layout_len g
  have hmem : ∀ l ∈ layout g, l.length ≤ 6 := fun l h => layout_mem h
  simp only [slotsAt]
  generalize hL : layout g = L at hll hmem
  have key : ∀ k : Nat, ∀ acc : List Int, acc.length ≤ k → k ≤ L.length → L_impl_SlotsAt_0 PP [(1, .v (.int .i64 c)), (5, .own T_int 1 8 (acc.map rI)), (9, .v (.sl 1 (L.map rIs))), (10, .v (.int .i64 L.length)), (11, .v (.int .i64 k))] [.own T_int 1 8 ((acc ++ slotsAtGo c (L.drop k) k).map rI)] := up L.length (fun k ih acc ha hk0 => ?_)
  · repeat' (first|refine goM rfl ?_|refine goR rfl ?_|refine goX rfl ?_|refine goY rfl ?_|refine goC (layout_ok g hg0) rfl rfl rfl rfl ?_)
    rw [hL]
    simp only [List.length_map]
    refine run_loopF rfl ?_
    exact key 0 [] (by simp) (by omega)
  · repeat' (first|refine goM rfl ?_|refine goR rfl ?_|refine goX rfl ?_|refine goY rfl ?_)
    refine run_cnd_lt rfl (fun hk => ?_) (fun hk => ?_)
    · rw [slotsAtGo_drop c L hk]
      repeat' (first|refine mid_idxm rfl rfl hk rfl ?_|refine goM rfl ?_|refine goR rfl ?_|refine goX rfl ?_|refine goY rfl ?_|refine goC (ContainsInt_ok L[k] c (by have := hmem _ (List.getElem_mem hk); omega)) rfl rfl rfl rfl ?_)
      rw [← List.contains_eq_any_beq]
      (first | refine mid_gdT rfl rfl (fun hb => ?_) (fun hb => ?_) | refine mid_gdF rfl rfl (fun hb => ?_) (fun hb => ?_) | refine run_cnd rfl (fun hb => ?_) (fun hb => ?_)) <;> try rw [hb]
      · repeat' (first|refine mid_app rfl rfl rfl (by decide) rfl (by simp; omega) (by simp; omega) ?_|refine goM rfl ?_|refine goR rfl ?_|refine goX rfl ?_|refine goY rfl ?_)
        refine run_backF rfl ?_
        rw [wsucc (by omega), ← List.append_assoc]
        have := ih hk (acc ++ [(k : Int)]) (by simp; omega) (by omega)
        rw [List.map_append (l₁ := acc)] at this
        exact this
      · repeat' (first|refine goM rfl ?_|refine goR rfl ?_|refine goX rfl ?_|refine goY rfl ?_)
        refine run_backF rfl ?_
        rw [wsucc (by omega)]
        exact ih hk acc (by omega) (by omega)
    · repeat' (first|refine goM rfl ?_|refine goR rfl ?_|refine goX rfl ?_|refine goY rfl ?_)
      (first|refine run_ret rfl ?_|refine run_done rfl ?_)
      rw [slotsAtGo_nil c L hk, List.append_nil]
theorem SlotsAt_ok' (g : Grd) (hg0 : g.cells.length ≤ 1048576) (c : Int) : CallsOK PP F_spec_SlotsAt [.agg (rGrd g), .v (.int .i64 c)] [.own T_int 1 8 ((slotsAt g c).map rI)] := by
  refine S_spec_SlotsAt rfl (Nat.le_of_ble_eq_true rfl) ?_
  have hsl := slots_len g
  have hll := layout_len g
  have key : ∀ k : Nat, ∀ acc : List Int, acc.length ≤ k → k ≤ (slotsOf g).length → L_spec_SlotsAt_0 PP [(1, .v (.int .i64 c)), (2, .box (rGrd g)), (5, .own T_int 1 8 (acc.map rI)), (6, .v (dSlts (slotsOf g))), (7, .v (.int .i64 k))] [.own T_int 1 8 ((acc ++ slotsAtGo c ((layout g).drop k) k).map rI)] := up (slotsOf g).length (fun k ih acc ha hk0 => ?_)
  · repeat' (first|refine goM rfl ?_|refine goR rfl ?_|refine goX rfl ?_|refine goY rfl ?_|refine goC (SlotsOf_ok' g hg0) rfl rfl rfl rfl ?_)
    refine run_loopF rfl ?_
    exact key 0 [] (by simp) (by omega)
  · simp only [rGrd]
    repeat' (first|refine goM rfl ?_|refine goR rfl ?_|refine goX rfl ?_|refine goY rfl ?_)
    simp only [List.length_map]
    refine run_cnd_lt rfl (fun hk => ?_) (fun hk => ?_)
    · have hk2 : k < (layout g).length := by omega
      rw [slotsAtGo_drop c _ hk2]
      have hs := List.getElem_mem hk
      obtain ⟨_, i, n, h1, h2, h36, _, h6, _⟩ := slot_mem hs
      have he : (layout g)[k] = cellsOf g (slotsOf g)[k] := by simp [layout]
      have hc := CellsOf_ok' g (slotsOf g)[k] hs
      have hlen : (cellsOf g (slotsOf g)[k]).length ≤ 1048576 := by rw [cells_len, h2]; omega
      rw [he]
      simp only [rGrd, rSlt] at hc ih
      repeat' (first|refine mid_idxm rfl rfl hk rfl ?_|refine goM rfl ?_|refine goR rfl ?_|refine goX rfl ?_|refine goY rfl ?_|refine goC (hc) rfl rfl rfl rfl ?_|refine goC (l8Has_ok _ c hlen) rfl rfl rfl rfl ?_)
      (first | refine mid_gdT rfl rfl (fun hb => ?_) (fun hb => ?_) | refine mid_gdF rfl rfl (fun hb => ?_) (fun hb => ?_) | refine run_cnd rfl (fun hb => ?_) (fun hb => ?_)) <;> try rw [hb]
      · repeat' (first|refine mid_app rfl rfl rfl (by decide) rfl (by simp; omega) (by simp; omega) ?_|refine goM rfl ?_|refine goR rfl ?_|refine goX rfl ?_|refine goY rfl ?_)
        refine run_backF rfl ?_
        rw [wsucc (by omega), ← List.append_assoc]
        have := ih hk (acc ++ [(k : Int)]) (by simp; omega) (by omega)
        rw [List.map_append (l₁ := acc)] at this
        exact this
      · repeat' (first|refine goM rfl ?_|refine goR rfl ?_|refine goX rfl ?_|refine goY rfl ?_)
        refine run_backF rfl ?_
        rw [wsucc (by omega)]
        exact ih hk acc (by omega) (by omega)
    · repeat' (first|refine goM rfl ?_|refine goR rfl ?_|refine goX rfl ?_|refine goY rfl ?_)
      (first|refine run_ret rfl ?_|refine run_done rfl ?_)
      rw [slotsAtGo_nil c _ (by omega), List.append_nil]
theorem IsChecked_ok (g : Grd) (hg0 : g.cells.length ≤ 1048576) (c : Int) : CallsOK PP F_impl_IsChecked [.agg (rGrd g), .v (.int .i64 c)] [.v (.bool (isChecked g c))] := by
  refine S_impl_IsChecked rfl (Nat.le_of_ble_eq_true rfl) ?_
  repeat' (first|refine goM rfl ?_|refine goR rfl ?_|refine goX rfl ?_|refine goY rfl ?_|refine goC (SlotsAt_ok g hg0 c) rfl rfl rfl rfl ?_)
  (first|refine run_ret rfl ?_|refine run_done rfl ?_)
  simp only [List.length_map, isChecked]
  congr 3
  rw [Bool.eq_iff_iff, beq_iff_eq, beq_iff_eq]; omega
theorem IsChecked_ok' (g : Grd) (hg0 : g.cells.length ≤ 1048576) (c : Int) : CallsOK PP F_spec_IsChecked [.agg (rGrd g), .v (.int .i64 c)] [.v (.bool (isChecked g c))] := by
  refine S_spec_IsChecked rfl (Nat.le_of_ble_eq_true rfl) ?_
  repeat' (first|refine goM rfl ?_|refine goR rfl ?_|refine goX rfl ?_|refine goY rfl ?_|refine goC (SlotsAt_ok' g hg0 c) rfl rfl rfl rfl ?_)
  (first|refine run_ret rfl ?_|refine run_done rfl ?_)
  simp only [List.length_map, isChecked]
  congr 3
  rw [Bool.eq_iff_iff, beq_iff_eq, beq_iff_eq]; omega
theorem filter_drop {α : Type} (p : α → Bool) (l : List α) {k : Nat} (h : k < l.length) : ((l.drop k).filter p).length = (if p l[k] then 1 else 0) + ((l.drop (k + 1)).filter p).length := by
  rw [List.drop_eq_getElem_cons h, List.filter_cons]; split <;> simp; omega
theorem UncheckedIn_ok (g : Grd) (hg0 : g.cells.length ≤ 1048576) (i : Nat) (hi : i < (slotsOf g).length) : CallsOK PP F_impl_UncheckedIn [.agg (rGrd g), .v (.int .i64 i)] [.v (.int .i64 (uncheckedIn g i))] := by
  refine S_impl_UncheckedIn rfl (Nat.le_of_ble_eq_true rfl) ?_
  have hll := layout_len g
  have hi2 : i < (layout g).length := by omega
  have hm := layout_mem (List.getElem_mem hi2)
  have hu : uncheckedIn g i = (((layout g)[i]).filter fun c => !isChecked g c).length := by rw [uncheckedIn, List.getD_eq_getElem?_getD, List.getElem?_eq_getElem hi2]; rfl
  rw [hu]
  repeat' (first|refine goM rfl ?_|refine goR rfl ?_|refine goX rfl ?_|refine goY rfl ?_|refine goC (layout_ok g hg0) rfl rfl rfl rfl ?_|refine goC (at_ok _ _) rfl rfl rfl rfl ?_)
  simp only [List.length_map]
  rw [show (decide (0 ≤ (i : Int)) && decide ((i : Int) < ((layout g).length : Int))) = true by simp; omega]
  repeat' (first|refine mid_idxm rfl rfl hi2 rfl ?_|refine goM rfl ?_|refine goR rfl ?_|refine goX rfl ?_|refine goY rfl ?_)
  generalize (layout g)[i] = l at hm ⊢
  have key : ∀ k n : Nat, n ≤ k → L_impl_UncheckedIn_0 PP [(2, .box (rGrd g)), (6, .v (.int .i64 n)), (19, .v (dInts l)), (20, .v (.int .i64 l.length)), (21, .v (.int .i64 k))] [.v (.int .i64 ((n + ((l.drop k).filter fun c => !isChecked g c).length : Nat) : Int))] := up l.length (fun k ih n hn => ?_)
  · simp only [List.length_map]
    refine run_loopF rfl ?_
    have := key 0 0 (by omega)
    simp only [Nat.zero_add, List.drop_zero] at this
    exact this
  · simp only [rGrd]
    repeat' (first|refine goM rfl ?_|refine goR rfl ?_|refine goX rfl ?_|refine goY rfl ?_)
    refine run_cnd_lt rfl (fun hk => ?_) (fun hk => ?_)
    · rw [filter_drop _ l hk]
      repeat' (first|refine mid_idxm rfl rfl hk rfl ?_|refine goM rfl ?_|refine goR rfl ?_|refine goX rfl ?_|refine goY rfl ?_|refine goC (IsChecked_ok g hg0 l[k]) rfl rfl rfl rfl ?_)
      (first | refine mid_gdT rfl rfl (fun hb => ?_) (fun hb => ?_) | refine mid_gdF rfl rfl (fun hb => ?_) (fun hb => ?_) | refine run_cnd rfl (fun hb => ?_) (fun hb => ?_)) <;> try rw [hb]
      · repeat' (first|refine goM rfl ?_|refine goR rfl ?_|refine goX rfl ?_|refine goY rfl ?_)
        refine run_backF rfl ?_
        rw [wsucc (by omega), wsucc (by omega), ← Nat.add_assoc]
        exact ih hk (n + 1) (by omega)
      · repeat' (first|refine goM rfl ?_|refine goR rfl ?_|refine goX rfl ?_|refine goY rfl ?_)
        refine run_backF rfl ?_
        rw [wsucc (by omega), if_neg (by simp), Nat.zero_add]
        exact ih hk n (by omega)
    · repeat' (first|refine goM rfl ?_|refine goR rfl ?_|refine goX rfl ?_|refine goY rfl ?_)
      (first|refine run_ret rfl ?_|refine run_done rfl ?_)
      rw [List.drop_eq_nil_of_le (by omega)]; rfl
theorem UncheckedIn_ok' (g : Grd) (hg0 : g.cells.length ≤ 1048576) (i : Nat) (hi : i < (slotsOf g).length) : CallsOK PP F_spec_UncheckedIn [.agg (rGrd g), .v (.int .i64 i)] [.v (.int .i64 (uncheckedIn g i))] := by
  refine S_spec_UncheckedIn rfl (Nat.le_of_ble_eq_true rfl) ?_
  have hsl := slots_len g
  have hi2 : i < (layout g).length := by rw [layout_len]; exact hi
  have hm := layout_mem (List.getElem_mem hi2)
  have he : (layout g)[i] = cellsOf g (slotsOf g)[i] := by simp [layout]
  have hu : uncheckedIn g i = ((cellsOf g (slotsOf g)[i]).filter fun c => !isChecked g c).length := by rw [uncheckedIn, List.getD_eq_getElem?_getD, List.getElem?_eq_getElem hi2, Option.getD_some, he]
  rw [hu]
  rw [he] at hm
  have hc := CellsOf_ok' g (slotsOf g)[i] (List.getElem_mem hi)
  have e2 : IntKind.i64.wrap (((slotsOf g).length : Int) - 1) = ((slotsOf g).length : Int) - 1 := w64 (by omega) (by omega)
  simp only [rGrd, rSlt] at hc
  repeat' (first|refine goM rfl ?_|refine goR rfl ?_|refine goX rfl ?_|refine goY rfl ?_|refine goC (SlotsOf_ok' g hg0) rfl rfl rfl rfl ?_|refine goC (l1In_ok _ _ _) rfl rfl rfl rfl ?_)
  simp only [List.length_map, e2]
  rw [show inR (i : Int) 0 (((slotsOf g).length : Int) - 1) = true by simp [inR]; omega]
  repeat' (first|refine mid_idxm rfl rfl hi rfl ?_|refine goM rfl ?_|refine goR rfl ?_|refine goX rfl ?_|refine goY rfl ?_|refine goC (hc) rfl rfl rfl rfl ?_)
  generalize cellsOf g (slotsOf g)[i] = l at hm ⊢
  have key : ∀ k n : Nat, n ≤ k → L_spec_UncheckedIn_0 PP [(2, .box (rGrd g)), (6, .v (dInts l)), (7, .v (.int .i64 n)), (8, .v (.int .i64 k))] [.v (.int .i64 ((n + ((l.drop k).filter fun c => !isChecked g c).length : Nat) : Int))] := up l.length (fun k ih n hn => ?_)
  · refine run_loopF rfl ?_
    have := key 0 0 (by omega)
    simp only [Nat.zero_add, List.drop_zero] at this
    exact this
  · simp only [rGrd]
    repeat' (first|refine goM rfl ?_|refine goR rfl ?_|refine goX rfl ?_|refine goY rfl ?_)
    simp only [List.length_map]
    refine run_cnd_lt rfl (fun hk => ?_) (fun hk => ?_)
    · rw [filter_drop _ l hk]
      repeat' (first|refine mid_idxm rfl rfl hk rfl ?_|refine goM rfl ?_|refine goR rfl ?_|refine goX rfl ?_|refine goY rfl ?_|refine goC (IsChecked_ok' g hg0 l[k]) rfl rfl rfl rfl ?_)
      (first | refine mid_gdT rfl rfl (fun hb => ?_) (fun hb => ?_) | refine mid_gdF rfl rfl (fun hb => ?_) (fun hb => ?_) | refine run_cnd rfl (fun hb => ?_) (fun hb => ?_)) <;> try rw [hb]
      · repeat' (first|refine goM rfl ?_|refine goR rfl ?_|refine goX rfl ?_|refine goY rfl ?_)
        refine run_backF rfl ?_
        rw [wsucc (by omega), wsucc (by omega), ← Nat.add_assoc]
        exact ih hk (n + 1) (by omega)
      · repeat' (first|refine goM rfl ?_|refine goR rfl ?_|refine goX rfl ?_|refine goY rfl ?_)
        refine run_backF rfl ?_
        rw [wsucc (by omega), if_neg (by simp), Nat.zero_add]
        exact ih hk n (by omega)
    · repeat' (first|refine goM rfl ?_|refine goR rfl ?_|refine goX rfl ?_|refine goY rfl ?_)
      (first|refine run_ret rfl ?_|refine run_done rfl ?_)
      rw [List.drop_eq_nil_of_le (by omega)]; rfl
theorem IsWhite_ok' (g : Grd) (hg : isGrid g = true) (i : Nat) (hi : i < g.cells.length) : CallsOK PP F_spec_IsWhite [.agg (rGrd g), .v (.int .i64 i)] [.v (.bool (g.white i))] := by
  obtain ⟨R, C, hr, hc, hR, hC, r2, r6, c2, c6, hlen, h36⟩ := grid_nat hg
  refine S_spec_IsWhite rfl (Nat.le_of_ble_eq_true rfl) ?_
  have e2 : IntKind.i64.wrap ((g.cells.length : Int) - 1) = (g.cells.length : Int) - 1 := w64 (by omega) (by omega)
  repeat' (first|refine goM rfl ?_|refine goR rfl ?_|refine goX rfl ?_|refine goY rfl ?_|refine goC (IsGrid_ok' g (by omega)) rfl rfl rfl rfl ?_)
  rw [hg]
  repeat' (first|refine goM rfl ?_|refine goC (l1In_ok _ _ _) rfl rfl rfl rfl ?_)
  simp only [e2]
  rw [show inR (i : Int) 0 ((g.cells.length : Int) - 1) = true by simp [inR]; omega]
  repeat' (first|refine mid_sidxs rfl rfl hi rfl ?_|refine goM rfl ?_|refine goY rfl ?_)
  (first|refine run_ret rfl ?_|refine run_done rfl ?_)
  rw [white_at hi]
theorem l10Short_ok (g : Grd) (hg0 : g.cells.length ≤ 1048576) : CallsOK PP F_spec_l10Short [.agg (rGrd g)] [.v (.bool ((slotsOf g).any fun s => decide (s.len < 3)))] := by
  refine S_spec_l10Short rfl (Nat.le_of_ble_eq_true rfl) ?_
  have hsl := slots_len g
  generalize hl : slotsOf g = l at hsl
  have key : ∀ k : Nat, L_spec_l10Short_0 PP [(3, .v (dSlts l)), (4, .v (.int .i64 k))] [.v (.bool ((l.drop k).any fun s => decide (s.len < 3)))] := up l.length (fun k ih => ?_)
  · repeat' (first|refine goM rfl ?_|refine goR rfl ?_|refine goX rfl ?_|refine goY rfl ?_|refine goC (SlotsOf_ok' g hg0) rfl rfl rfl rfl ?_)
    rw [hl]
    refine run_loopF rfl ?_
    exact key 0
  · repeat' (first|refine goM rfl ?_|refine goR rfl ?_|refine goX rfl ?_|refine goY rfl ?_)
    simp only [List.length_map]
    refine run_cnd_lt rfl (fun hk => ?_) (fun hk => ?_)
    · rw [any_drop _ l hk]
      repeat' (first|refine mid_idxm rfl rfl hk rfl ?_|refine goM rfl ?_|refine goR rfl ?_|refine goX rfl ?_|refine goY rfl ?_)
      (first | refine mid_gdT rfl rfl (fun hb => ?_) (fun hb => ?_) | refine mid_gdF rfl rfl (fun hb => ?_) (fun hb => ?_) | refine run_cnd rfl (fun hb => ?_) (fun hb => ?_)) <;> try rw [hb]
      · repeat' (first|refine goM rfl ?_|refine goR rfl ?_|refine goX rfl ?_|refine goY rfl ?_)
        (first|refine run_ret rfl ?_|refine run_done rfl ?_)
        rfl
      · repeat' (first|refine goM rfl ?_|refine goR rfl ?_|refine goX rfl ?_|refine goY rfl ?_)
        refine run_backF rfl ?_
        rw [wsucc (by omega)]
        exact ih hk
    · repeat' (first|refine goM rfl ?_|refine goR rfl ?_|refine goX rfl ?_|refine goY rfl ?_)
      (first|refine run_ret rfl ?_|refine run_done rfl ?_)
      rw [any_drop_nil _ l hk]
theorem unchecked_le (g : Grd) (i : Nat) : uncheckedIn g i ≤ 6 := by
  rw [uncheckedIn]
  refine Nat.le_trans (List.length_filter_le _ _) ?_
  rw [List.getD_eq_getElem?_getD]
  cases h : (layout g)[i]? with
  | none => simp
  | some l => exact layout_mem (List.mem_of_getElem? h)
theorem aloneIn_cells (g : Grd) : aloneIn g g.cells = (List.range g.cells.length).any fun c => g.white c && (slotsAt g c == []) := by
  unfold aloneIn
  congr 1; funext c
  cases hw : g.white c
  · simp
  · have : isL (g.cells.getD c 0) = false := by
      simp only [Grd.white, Grd.at, beq_iff_eq] at hw
      simp only [isL, hw]; rfl
    rw [this, Bool.not_false, Bool.and_true]
theorem l10Alone_ok (g : Grd) (hg : isGrid g = true) : CallsOK PP F_spec_l10Alone [.agg (rGrd g)] [.v (.bool (!crowded g || aloneIn g g.cells))] := by
  obtain ⟨R, C, hr, hc, hR, hC, r2, r6, c2, c6, hlen, h36⟩ := grid_nat hg
  refine S_spec_l10Alone rfl (Nat.le_of_ble_eq_true rfl) ?_
  have hsl := slots_len g
  rw [aloneIn_cells]
  have key2 : ∀ k : Nat, L_spec_l10Alone_0 PP [(1, .box (rGrd g)), (5, .v (.int .i64 k))] [.v (.bool (((List.range g.cells.length).drop k).any fun c => g.white c && (slotsAt g c == [])))] := up g.cells.length (fun k ih => ?_)
  · have key : ∀ k : Nat, L_spec_l10Alone_1 PP [(1, .box (rGrd g)), (3, .v (dSlts (slotsOf g))), (4, .v (.int .i64 k))] [.v (.bool (!(allI (fun i (s : Slt) => !decide (2 * (uncheckedIn g i : Int) > s.len)) ((slotsOf g).drop k) k) || (List.range g.cells.length).any fun c => g.white c && (slotsAt g c == [])))] := up (slotsOf g).length (fun k ih => ?_)
    · repeat' (first|refine goM rfl ?_|refine goR rfl ?_|refine goX rfl ?_|refine goY rfl ?_|refine goC (SlotsOf_ok' g (by omega)) rfl rfl rfl rfl ?_)
      refine run_loopF rfl ?_
      exact key 0
    · simp only [rGrd]
      repeat' (first|refine goM rfl ?_|refine goR rfl ?_|refine goX rfl ?_|refine goY rfl ?_)
      simp only [List.length_map]
      refine run_cnd_lt rfl (fun hk => ?_) (fun hk => ?_)
      · have hu := unchecked_le g k
        rw [allI_drop _ _ hk]
        repeat' (first|refine mid_idxm rfl rfl hk rfl ?_|refine goM rfl ?_|refine goR rfl ?_|refine goX rfl ?_|refine goY rfl ?_|refine goC (UncheckedIn_ok' g (by omega) k hk) rfl rfl rfl rfl ?_)
        rw [w64 (by omega) (by omega)]
        (first | refine mid_gdT rfl rfl (fun hb => ?_) (fun hb => ?_) | refine mid_gdF rfl rfl (fun hb => ?_) (fun hb => ?_) | refine run_cnd rfl (fun hb => ?_) (fun hb => ?_)) <;> try rw [hb]
        · repeat' (first|refine goM rfl ?_|refine goR rfl ?_|refine goX rfl ?_|refine goY rfl ?_)
          (first|refine run_ret rfl ?_|refine run_done rfl ?_)
          rfl
        · repeat' (first|refine goM rfl ?_|refine goR rfl ?_|refine goX rfl ?_|refine goY rfl ?_)
          refine run_backF rfl ?_
          rw [wsucc (by omega), Bool.not_false, Bool.true_and]
          exact ih hk
      · repeat' (first|refine goM rfl ?_|refine goR rfl ?_|refine goX rfl ?_|refine goY rfl ?_)
        refine run_loopF rfl ?_
        rw [allI_nil _ _ hk, Bool.not_true, Bool.false_or]
        exact key2 0
  · simp only [rGrd]
    repeat' (first|refine goM rfl ?_|refine goR rfl ?_|refine goX rfl ?_|refine goY rfl ?_)
    refine run_cnd_lt rfl (fun hk => ?_) (fun hk => ?_)
    · rw [any_drop _ _ (by simpa using hk), List.getElem_range]
      repeat' (first|refine goM rfl ?_|refine goR rfl ?_|refine goX rfl ?_|refine goC (IsWhite_ok' g hg k hk) rfl rfl rfl rfl ?_)
      cases hw : g.white k
      · repeat' (first|refine goM rfl ?_|refine goR rfl ?_|refine goX rfl ?_|refine goY rfl ?_)
        refine run_backF rfl ?_
        rw [wsucc (by omega), Bool.false_and, Bool.false_or]
        exact ih hk
      · repeat' (first|refine goM rfl ?_|refine goY rfl ?_|refine goC (SlotsAt_ok' g (by omega) k) rfl rfl rfl rfl ?_)
        simp only [List.length_map]
        rw [show (((slotsAt g k).length : Int) == 0) = (slotsAt g k == []) by cases slotsAt g k <;> simp; omega]
        (first | refine mid_gdT rfl rfl (fun hb => ?_) (fun hb => ?_) | refine mid_gdF rfl rfl (fun hb => ?_) (fun hb => ?_) | refine run_cnd rfl (fun hb => ?_) (fun hb => ?_)) <;> try rw [hb]
        · repeat' (first|refine goM rfl ?_|refine goR rfl ?_|refine goX rfl ?_|refine goY rfl ?_)
          (first|refine run_ret rfl ?_|refine run_done rfl ?_)
          rfl
        · repeat' (first|refine goM rfl ?_|refine goR rfl ?_|refine goX rfl ?_|refine goY rfl ?_)
          refine run_backF rfl ?_
          rw [wsucc (by omega), Bool.and_false, Bool.false_or]
          exact ih hk
    · repeat' (first|refine goM rfl ?_|refine goR rfl ?_|refine goX rfl ?_|refine goY rfl ?_)
      (first|refine run_ret rfl ?_|refine run_done rfl ?_)
      rw [any_drop_nil _ _ (by simpa using hk)]
end Go.Rd

namespace Go.Rd
open Go.Proofs
set_option linter.unusedSimpArgs false
set_option linter.unusedVariables false
set_option maxRecDepth 10000
set_option maxHeartbeats 4000000
def fillB (a b : Int) : Bool := (b == 35 && a == 35) || (b == 46 && (a == 63 || (decide (97 ≤ a) && decide (a ≤ 122))))
theorem isFill_eq (g : Grd) (f : Str) : isFill g f = (isGrid g && (f.length == g.cells.length) && (f.zip g.cells).all fun p => fillB (cv p.1) (cv p.2)) := rfl
theorem cell_at {g : Grd} (hg : isGrid g = true) {k : Nat} (hk : k < g.cells.length) : (g.cells[k].toNat : Int) = 35 ∨ (g.cells[k].toNat : Int) = 46 := by
  simp only [isGrid, Bool.and_eq_true, List.all_eq_true] at hg
  have := hg.2 _ (List.getElem_mem hk)
  simpa [isCell] using this
theorem IsFill_ok (g : Grd) (f : Str) (hg0 : g.cells.length ≤ 1048576) : CallsOK PP F_impl_IsFill [.agg (rGrd g), .v (.str f)] [.v (.bool (isFill g f))] := by
  refine S_impl_IsFill rfl (Nat.le_of_ble_eq_true rfl) ?_
  rw [isFill_eq]
  simp only [rGrd]
  have hgr := IsGrid_ok g hg0
  simp only [rGrd] at hgr
  repeat' (first|refine goM rfl ?_|refine goR rfl ?_|refine goX rfl ?_|refine goY rfl ?_|refine goC (hgr) rfl rfl rfl rfl ?_)
  cases hg : isGrid g
  · repeat' (first|refine goM rfl ?_|refine goR rfl ?_|refine goX rfl ?_|refine goY rfl ?_)
    (first|refine run_ret rfl ?_|refine run_done rfl ?_)
    rfl
  · obtain ⟨R, C, hr, hc, hR, hC, r2, r6, c2, c6, hlen, h36⟩ := grid_nat hg
    repeat' (first|refine goM rfl ?_|refine goY rfl ?_)
    (first | refine mid_gdT rfl rfl (fun hl => ?_) (fun hl => ?_) | refine mid_gdF rfl rfl (fun hl => ?_) (fun hl => ?_) | refine run_cnd rfl (fun hl => ?_) (fun hl => ?_)) <;> try rw [hl]
    · repeat' (first|refine goM rfl ?_|refine goR rfl ?_|refine goX rfl ?_|refine goY rfl ?_)
      (first|refine run_ret rfl ?_|refine run_done rfl ?_)
      have : (f.length == g.cells.length) = false := by
        simp only [bne_iff_ne, ne_eq] at hl
        rw [beq_eq_false_iff_ne]; omega
      rw [this]; rfl
    · have hl' : f.length = g.cells.length := by simp at hl; omega
      rw [hl', beq_self_eq_true, Bool.true_and, Bool.true_and]
      have hzl : (f.zip g.cells).length = f.length := by simp [hl']
      have key : ∀ k : Nat, L_impl_IsFill_0 PP [(1, .v (.str f)), (2, .box [dI g.rows, dI g.cols, dS g.cells]), (18, .v (.int .i64 f.length)), (19, .v (.int .i64 k))] [.v (.bool (((f.zip g.cells).drop k).all fun p => fillB (cv p.1) (cv p.2)))] := up f.length (fun k ih => ?_)
      · repeat' (first|refine goM rfl ?_|refine goR rfl ?_|refine goX rfl ?_|refine goY rfl ?_)
        refine run_loopF rfl ?_
        exact key 0
      · repeat' (first|refine goM rfl ?_|refine goR rfl ?_|refine goX rfl ?_|refine goY rfl ?_)
        refine run_cnd_lt rfl (fun hk => ?_) (fun hk => ?_)
        · rw [all_drop _ _ (show k < (f.zip g.cells).length by omega), List.getElem_zip]
          have ih := ih hk
          rw [← wsucc (show k < 9223372036854775807 by omega)] at ih
          have hk2 : k < g.cells.length := by omega
          simp only [cv]
          generalize hA : (f[k].toNat : Int) = a
          rcases cell_at hg hk2 with hB | hB
          all_goals rw [hB]
          all_goals repeat' (first | refine mid_sidxv hk hA rfl rfl rfl ?_ | refine mid_sidxv hk2 hB rfl rfl rfl ?_ | refine goM rfl ?_ | refine goR rfl ?_ | refine goX rfl ?_ | refine goY rfl ?_ | refine goC (isLetter_ok _) rfl rfl rfl rfl ?_ | (refine mid_gdT rfl rfl (fun hb => ?_) (fun hb => ?_) <;> try rw [hb]) | (refine mid_gdF rfl rfl (fun hb => ?_) (fun hb => ?_) <;> try rw [hb]) | (refine run_cnd rfl (fun hb => ?_) (fun hb => ?_) <;> try rw [hb]))
          all_goals first
            | (refine run_ret rfl ?_; have e : fillB a 35 = false := (by clear ih hgr hA; simp [fillB] at *; omega); rw [e]; rfl)
            | (refine run_backF rfl ?_; have e : fillB a 35 = true := (by clear ih hgr hA; simp [fillB] at *; omega); rw [e, Bool.true_and]; exact ih)
            | (refine run_ret rfl ?_; have e : fillB a 35 = false := (by clear ih hgr hA; simp_all [fillB]; done); rw [e]; rfl)
            | (refine run_backF rfl ?_; have e : fillB a 35 = true := (by clear ih hgr hA; simp_all [fillB]; done); rw [e, Bool.true_and]; exact ih)
            | (refine run_ret rfl ?_; have e : fillB a 46 = false := (by clear ih hgr hA; simp [fillB] at *; omega); rw [e]; rfl)
            | (refine run_backF rfl ?_; have e : fillB a 46 = true := (by clear ih hgr hA; simp [fillB] at *; omega); rw [e, Bool.true_and]; exact ih)
            | (refine run_ret rfl ?_; have e : fillB a 46 = false := (by clear ih hgr hA; simp_all [fillB]; done); rw [e]; rfl)
            | (refine run_backF rfl ?_; have e : fillB a 46 = true := (by clear ih hgr hA; simp_all [fillB]; done); rw [e, Bool.true_and]; exact ih)
        · repeat' (first|refine goM rfl ?_|refine goR rfl ?_|refine goX rfl ?_|refine goY rfl ?_)
          (first|refine run_ret rfl ?_|refine run_done rfl ?_)
          rw [all_drop_nil _ _ (by omega)]
theorem IsFill_ok' (g : Grd) (f : Str) (hg0 : g.cells.length ≤ 1048576) : CallsOK PP F_spec_IsFill [.agg (rGrd g), .v (.str f)] [.v (.bool (isFill g f))] := by
  refine S_spec_IsFill rfl (Nat.le_of_ble_eq_true rfl) ?_
  rw [isFill_eq]
  simp only [rGrd]
  have hgr := IsGrid_ok' g hg0
  simp only [rGrd] at hgr
  repeat' (first|refine goM rfl ?_|refine goR rfl ?_|refine goX rfl ?_|refine goY rfl ?_|refine goC (hgr) rfl rfl rfl rfl ?_)
  cases hg : isGrid g
  · repeat' (first|refine goM rfl ?_|refine goR rfl ?_|refine goX rfl ?_|refine goY rfl ?_)
    (first|refine run_ret rfl ?_|refine run_done rfl ?_)
    rfl
  · obtain ⟨R, C, hr, hc, hR, hC, r2, r6, c2, c6, hlen, h36⟩ := grid_nat hg
    repeat' (first|refine goM rfl ?_|refine goY rfl ?_)
    (first | refine mid_gdT rfl rfl (fun hl => ?_) (fun hl => ?_) | refine mid_gdF rfl rfl (fun hl => ?_) (fun hl => ?_) | refine run_cnd rfl (fun hl => ?_) (fun hl => ?_)) <;> try rw [hl]
    · repeat' (first|refine goM rfl ?_|refine goR rfl ?_|refine goX rfl ?_|refine goY rfl ?_)
      (first|refine run_ret rfl ?_|refine run_done rfl ?_)
      have : (f.length == g.cells.length) = false := by
        simp only [bne_iff_ne, ne_eq] at hl
        rw [beq_eq_false_iff_ne]; omega
      rw [this]; rfl
    · have hl' : f.length = g.cells.length := by simp at hl; omega
      rw [hl', beq_self_eq_true, Bool.true_and, Bool.true_and]
      have hzl : (f.zip g.cells).length = f.length := by simp [hl']
      have key : ∀ k : Nat, L_spec_IsFill_0 PP [(1, .v (.str f)), (2, .box [dI g.rows, dI g.cols, dS g.cells]), (5, .v (.int .i64 k))] [.v (.bool (((f.zip g.cells).drop k).all fun p => fillB (cv p.1) (cv p.2)))] := up f.length (fun k ih => ?_)
      · repeat' (first|refine goM rfl ?_|refine goR rfl ?_|refine goX rfl ?_|refine goY rfl ?_)
        refine run_loopF rfl ?_
        exact key 0
      · repeat' (first|refine goM rfl ?_|refine goR rfl ?_|refine goX rfl ?_|refine goY rfl ?_)
        refine run_cnd_lt rfl (fun hk => ?_) (fun hk => ?_)
        · rw [all_drop _ _ (show k < (f.zip g.cells).length by omega), List.getElem_zip]
          have ih := ih hk
          rw [← wsucc (show k < 9223372036854775807 by omega)] at ih
          have hk2 : k < g.cells.length := by omega
          simp only [cv]
          generalize hA : (f[k].toNat : Int) = a
          rcases cell_at hg hk2 with hB | hB
          all_goals rw [hB]
          all_goals repeat' (first | refine mid_sidxv hk hA rfl rfl rfl ?_ | refine mid_sidxv hk2 hB rfl rfl rfl ?_ | refine goM rfl ?_ | refine goR rfl ?_ | refine goX rfl ?_ | refine goY rfl ?_ | (refine mid_gdT rfl rfl (fun hb => ?_) (fun hb => ?_) <;> try rw [hb]) | (refine mid_gdF rfl rfl (fun hb => ?_) (fun hb => ?_) <;> try rw [hb]) | (refine run_cnd rfl (fun hb => ?_) (fun hb => ?_) <;> try rw [hb]))
          all_goals first
            | (refine run_ret rfl ?_; have e : fillB a 35 = false := (by clear ih hgr hA; simp [fillB] at *; omega); rw [e]; rfl)
            | (refine run_backF rfl ?_; have e : fillB a 35 = true := (by clear ih hgr hA; simp [fillB] at *; omega); rw [e, Bool.true_and]; exact ih)
            | (refine run_ret rfl ?_; have e : fillB a 35 = false := (by clear ih hgr hA; simp_all [fillB]; done); rw [e]; rfl)
            | (refine run_backF rfl ?_; have e : fillB a 35 = true := (by clear ih hgr hA; simp_all [fillB]; done); rw [e, Bool.true_and]; exact ih)
            | (refine run_ret rfl ?_; have e : fillB a 46 = false := (by clear ih hgr hA; simp [fillB] at *; omega); rw [e]; rfl)
            | (refine run_backF rfl ?_; have e : fillB a 46 = true := (by clear ih hgr hA; simp [fillB] at *; omega); rw [e, Bool.true_and]; exact ih)
            | (refine run_ret rfl ?_; have e : fillB a 46 = false := (by clear ih hgr hA; simp_all [fillB]; done); rw [e]; rfl)
            | (refine run_backF rfl ?_; have e : fillB a 46 = true := (by clear ih hgr hA; simp_all [fillB]; done); rw [e, Bool.true_and]; exact ih)
        · repeat' (first|refine goM rfl ?_|refine goR rfl ?_|refine goX rfl ?_|refine goY rfl ?_)
          (first|refine run_ret rfl ?_|refine run_done rfl ?_)
          rw [all_drop_nil _ _ (by omega)]
end Go.Rd

namespace Go.Rd
def Grd.adj (g : Grd) (i j : Nat) : Prop := (i / g.C = j / g.C ∧ (i + 1 = j ∨ j + 1 = i)) ∨ i + g.C = j ∨ j + g.C = i
def nbr (g : Grd) (s : List Bool) (i : Nat) : Bool :=
  ((((decide (0 < i % g.C) && s.getD (i - 1) false) || (decide (i % g.C + 1 < g.C) && s.getD (i + 1) false)) || (decide (g.C ≤ i) && s.getD (i - g.C) false)) || (decide (i + g.C < s.length) && s.getD (i + g.C) false))
theorem getD_lt {s : List Bool} {i : Nat} (h : s.getD i false = true) : i < s.length := by
  rcases Nat.lt_or_ge i s.length with h1 | h1
  · exact h1
  · rw [List.getD_eq_getElem?_getD, List.getElem?_eq_none h1] at h; simp at h
theorem nbr_iff (g : Grd) (s : List Bool) (i : Nat) (hC : 2 ≤ g.C ∧ g.C ≤ 6) : nbr g s i = true ↔ ∃ j, g.adj i j ∧ s.getD j false = true := by
  simp only [nbr, Bool.or_eq_true, Bool.and_eq_true, decide_eq_true_eq, Grd.adj]
  generalize g.C = C at hC
  have hc : C = 2 ∨ C = 3 ∨ C = 4 ∨ C = 5 ∨ C = 6 := by omega
  constructor
  · rintro (((⟨h1, h2⟩ | ⟨h1, h2⟩) | ⟨h1, h2⟩) | ⟨h1, h2⟩)
    · exact ⟨i - 1, by rcases hc with rfl | rfl | rfl | rfl | rfl <;> omega, h2⟩
    · exact ⟨i + 1, by rcases hc with rfl | rfl | rfl | rfl | rfl <;> omega, h2⟩
    · exact ⟨i - C, by omega, h2⟩
    · exact ⟨i + C, by omega, h2⟩
  · rintro ⟨j, h1, h2⟩
    have hl := getD_lt h2
    rcases h1 with ⟨h1, h3 | h3⟩ | h3 | h3
    · subst h3; exact .inl (.inl (.inr ⟨by rcases hc with rfl | rfl | rfl | rfl | rfl <;> omega, h2⟩))
    · have : j = i - 1 := by omega
      subst this; exact .inl (.inl (.inl ⟨by rcases hc with rfl | rfl | rfl | rfl | rfl <;> omega, h2⟩))
    · subst h3; exact .inr ⟨hl, h2⟩
    · have : j = i - C := by omega
      subst this; exact .inl (.inr ⟨by omega, h2⟩)
open Classical in
noncomputable def reachL (g : Grd) (i : Nat) : List Bool := (List.range g.cells.length).map fun j => decide (g.Reach i j)
theorem reachL_len (g : Grd) (i : Nat) : (reachL g i).length = g.cells.length := by simp [reachL]
theorem reachL_get (g : Grd) (i : Nat) {j : Nat} (h : j < g.cells.length) : (reachL g i).getD j false = true ↔ g.Reach i j := by
  simp [reachL, List.getD_eq_getElem?_getD, List.getElem?_map, List.getElem?_range h]
structure SweepOK (g : Grd) (i : Nat) (s : List Bool) : Prop where
  len : s.length = g.cells.length
  start : s.getD i false = true
  reach : ∀ j, s.getD j false = true → g.Reach i j
def doneAt (g : Grd) (s : List Bool) (j : Nat) : Prop := s.getD j false = true ∨ g.white j = false ∨ nbr g s j = false
theorem reach_white {g : Grd} {i j : Nat} (h : g.Reach i j) (hi : g.white i = true) : g.white j = true := by
  cases h with
  | refl => exact hi
  | step _ hn => exact hn.2.1
theorem white_lt {g : Grd} {k : Nat} (h : g.white k = true) : k < g.cells.length := by
  rcases Nat.lt_or_ge k g.cells.length with h1 | h1
  · exact h1
  · exfalso
    simp only [Grd.white, Grd.at, beq_iff_eq] at h
    rw [List.getD_eq_getElem?_getD, List.getElem?_eq_none h1] at h
    exact absurd h (by decide)
theorem adj_symm {g : Grd} {i j : Nat} (h : g.adj i j) : g.adj j i := by
  unfold Grd.adj at *; omega
theorem sweep_step {g : Grd} {i : Nat} {s : List Bool} (h : SweepOK g i s) (hi : g.white i = true) (hC : 2 ≤ g.C ∧ g.C ≤ 6) {k : Nat} (hk : k < g.cells.length) (hw : g.white k = true) (hn : nbr g s k = true) : SweepOK g i (s.set k true) := by
  refine ⟨by simpa using h.len, ?_, fun j hj => ?_⟩
  · by_cases e : k = i
    · subst e; simp [List.getD_eq_getElem?_getD, List.getElem?_set, h.len, hk]
    · have := h.start
      rw [List.getD_eq_getElem?_getD] at this ⊢
      rw [List.getElem?_set_ne e]; exact this
  · by_cases e : k = j
    · subst e
      obtain ⟨m, h1, h2⟩ := (nbr_iff g s k hC).1 hn
      have hr := h.reach m h2
      have ha := adj_symm h1
      exact hr.step ⟨reach_white hr hi, hw, ha⟩
    · refine h.reach j ?_
      rw [List.getD_eq_getElem?_getD] at hj ⊢
      rw [List.getElem?_set_ne e] at hj; exact hj
theorem sweep_done {g : Grd} {i : Nat} {s : List Bool} (h : SweepOK g i s) (hC : 2 ≤ g.C ∧ g.C ≤ 6) (hd : ∀ j, j < g.cells.length → doneAt g s j) : s = reachL g i := by
  have hclosed : ∀ j, g.Reach i j → s.getD j false = true := by
    intro j hr
    induction hr with
    | refl => exact h.start
    | step hr hn ih =>
      rename_i j k
      have hk : k < g.cells.length := white_lt hn.2.1
      rcases hd k hk with h1 | h1 | h1
      · exact h1
      · rw [hn.2.1] at h1; simp at h1
      · have := (nbr_iff g s k hC).2 ⟨j, adj_symm hn.2.2, ih⟩
        rw [this] at h1; simp at h1
  refine List.ext_getElem? (fun j => ?_)
  by_cases hj : j < g.cells.length
  · have e1 := reachL_get g i hj
    have hs : j < s.length := by rw [h.len]; exact hj
    have hr : j < (reachL g i).length := by rw [reachL_len]; exact hj
    rw [List.getElem?_eq_getElem hs, List.getElem?_eq_getElem hr]
    have a1 : s.getD j false = s[j] := by rw [List.getD_eq_getElem?_getD, List.getElem?_eq_getElem hs]; rfl
    have a2 : (reachL g i).getD j false = (reachL g i)[j] := by rw [List.getD_eq_getElem?_getD, List.getElem?_eq_getElem hr]; rfl
    congr 1
    rw [← a1, ← a2, Bool.eq_iff_iff, e1]
    exact ⟨h.reach j, hclosed j⟩
  · rw [List.getElem?_eq_none (by rw [h.len]; omega), List.getElem?_eq_none (by rw [reachL_len]; omega)]
def falses (s : List Bool) : Nat := (s.filter fun b => !b).length
theorem falses_set : ∀ {s : List Bool} {k : Nat}, k < s.length → s.getD k false = false → falses (s.set k true) + 1 = falses s
  | [], k, h, _ => by simp at h
  | b :: s, 0, _, hb => by
    simp at hb; subst hb
    simp [falses]
  | b :: s, k + 1, h, hb => by
    have := falses_set (s := s) (k := k) (by simpa using h) (by simpa using hb)
    unfold falses at this ⊢
    simp only [List.set_cons_succ, List.filter_cons]
    cases b <;> simp at * <;> omega
def Grd.before (g : Grd) (i j : Nat) : Prop := ∃ k, k < i ∧ g.white k = true ∧ g.Reach k j
open Classical in
noncomputable def metL (g : Grd) (i : Nat) : List Bool := (List.range g.cells.length).map fun j => decide (g.before i j)
theorem metL_len (g : Grd) (i : Nat) : (metL g i).length = g.cells.length := by simp [metL]
theorem metL_get (g : Grd) (i : Nat) {j : Nat} (h : j < g.cells.length) : (metL g i).getD j false = true ↔ g.before i j := by
  simp [metL, List.getD_eq_getElem?_getD, List.getElem?_map, List.getElem?_range h]
theorem metL_zero (g : Grd) : metL g 0 = List.replicate g.cells.length false := by
  refine List.ext_getElem? (fun j => ?_)
  by_cases hj : j < g.cells.length
  · simp [metL, List.getElem?_map, List.getElem?_range hj, List.getElem?_replicate, hj, Grd.before]
  · rw [List.getElem?_eq_none (by rw [metL_len]; omega), List.getElem?_eq_none (by simp; omega)]
theorem reach_trans {g : Grd} {i j k : Nat} (h1 : g.Reach i j) (h2 : g.Reach j k) : g.Reach i k := by
  induction h2 with
  | refl => exact h1
  | step _ hn ih => exact ih.step hn
theorem counts_iff (g : Grd) (i : Nat) : (g.white i = true ∧ ∀ j, j < i → g.white j = true → ¬ g.Reach j i) ↔ (g.white i = true ∧ ¬ g.before i i) := by
  simp only [Grd.before]
  constructor
  · rintro ⟨h1, h2⟩; exact ⟨h1, fun ⟨k, hk, hw, hr⟩ => h2 k hk hw hr⟩
  · rintro ⟨h1, h2⟩; exact ⟨h1, fun j hj hw hr => h2 ⟨j, hj, hw, hr⟩⟩
theorem before_succ {g : Grd} {i j : Nat} : g.before (i + 1) j ↔ g.before i j ∨ (g.white i = true ∧ g.Reach i j) := by
  simp only [Grd.before]
  constructor
  · rintro ⟨k, hk, hw, hr⟩
    by_cases e : k = i
    · subst e; exact .inr ⟨hw, hr⟩
    · exact .inl ⟨k, by omega, hw, hr⟩
  · rintro (⟨k, hk, hw, hr⟩ | ⟨hw, hr⟩)
    · exact ⟨k, by omega, hw, hr⟩
    · exact ⟨i, by omega, hw, hr⟩
theorem before_met {g : Grd} {i j : Nat} (h : g.before i i) : g.before (i + 1) j ↔ g.before i j := by
  rw [before_succ]
  constructor
  · rintro (h1 | ⟨hw, hr⟩)
    · exact h1
    · obtain ⟨k, hk, hw', hr'⟩ := h
      exact ⟨k, hk, hw', reach_trans hr' hr⟩
  · exact .inl
theorem metL_ext {g : Grd} {i i' : Nat} (h : ∀ j, g.before i j ↔ g.before i' j) : metL g i = metL g i' := by
  unfold metL; congr 1; funext j; rw [decide_eq_decide]; exact h j
end Go.Rd

namespace Go.Rd
def ix (g : Grd) (r c : Int) : Nat := r.toNat * g.C + c.toNat
def inG (g : Grd) (r c : Int) : Prop := 0 ≤ r ∧ r < g.R ∧ 0 ≤ c ∧ c < g.C
instance (g : Grd) (r c : Int) : Decidable (inG g r c) := by unfold inG; infer_instance
def freeAt (g : Grd) (m : List Bool) (r c : Int) : Bool := decide (inG g r c) && (!m.getD (ix g r c) false && g.white (ix g r c))
def dfs (g : Grd) : Nat → List Bool → Int → Int → List Bool
  | 0, m, _, _ => m
  | n + 1, m, r, c => if freeAt g m r c then dfs g n (dfs g n (dfs g n (dfs g n (m.set (ix g r c) true) (r - 1) c) (r + 1) c) r (c - 1)) r (c + 1) else m
theorem getB_set {m : List Bool} {i j : Nat} (hi : i < m.length) : (m.set i true).getD j false = if i = j then true else m.getD j false := by
  rw [List.getD_eq_getElem?_getD, List.getElem?_set]
  by_cases e : i = j
  · subst e; simp [hi]
  · simp [e]
theorem ix_div {g : Grd} {r c : Int} (h : inG g r c) : ix g r c / g.C = r.toNat ∧ ix g r c % g.C = c.toNat := by
  obtain ⟨h1, h2, h3, h4⟩ := h
  have hc : c.toNat < g.C := by omega
  unfold ix
  constructor
  · rw [Nat.mul_comm, Nat.mul_add_div (by omega), Nat.div_eq_of_lt hc]; rfl
  · rw [Nat.mul_comm, Nat.mul_add_mod, Nat.mod_eq_of_lt hc]
theorem ix_lt {g : Grd} {r c : Int} (h : inG g r c) : ix g r c < g.R * g.C := by
  obtain ⟨h1, h2, h3, h4⟩ := h
  have := Nat.mul_le_mul_right g.C (show r.toNat + 1 ≤ g.R by omega)
  unfold ix; rw [Nat.add_mul] at this; omega
theorem near_cases {g : Grd} {r c : Int} {k : Nat} (hin : inG g r c) (hlen : g.cells.length = g.R * g.C) (h : g.near (ix g r c) k) :
    (inG g (r - 1) c ∧ k = ix g (r - 1) c) ∨ (inG g (r + 1) c ∧ k = ix g (r + 1) c) ∨ (inG g r (c - 1) ∧ k = ix g r (c - 1)) ∨ (inG g r (c + 1) ∧ k = ix g r (c + 1)) := by
  obtain ⟨hd, hm⟩ := ix_div hin
  obtain ⟨h1, h2, h3, h4⟩ := hin
  obtain ⟨hw1, hw2, hn⟩ := h
  have hk : k < g.R * g.C := by rw [← hlen]; exact white_lt hw2
  generalize hi : ix g r c = i at *
  have hi' : r.toNat * g.C + c.toNat = i := hi
  have hC : 0 < g.C := by omega
  have ek := Nat.div_add_mod k g.C
  have ekm : k % g.C < g.C := Nat.mod_lt _ hC
  have hcomm : ∀ a : Nat, a * g.C = g.C * a := fun a => Nat.mul_comm _ _
  rcases hn with ⟨hrow, e | e⟩ | e | e
  · right; right; right
    have e1 : k % g.C = c.toNat + 1 := by
      have : g.C * (k / g.C) = r.toNat * g.C := by rw [← hrow, hd, Nat.mul_comm]
      omega
    refine ⟨⟨h1, h2, by omega, by omega⟩, ?_⟩
    unfold ix; rw [show (c + 1).toNat = c.toNat + 1 by omega]; omega
  · right; right; left
    have hc0 : 0 < c.toNat := by
      have : g.C * (k / g.C) = r.toNat * g.C := by rw [← hrow, hd, Nat.mul_comm]
      omega
    refine ⟨⟨h1, h2, by omega, by omega⟩, ?_⟩
    unfold ix; rw [show (c - 1).toNat = c.toNat - 1 by omega]; omega
  · right; left
    have e2 : (r.toNat + 1) * g.C = r.toNat * g.C + g.C := by rw [Nat.add_mul, Nat.one_mul]
    have hr : r.toNat + 1 < g.R := by
      refine Nat.lt_of_not_le (fun hle => ?_)
      have := Nat.mul_le_mul_right g.C hle
      omega
    refine ⟨⟨by omega, by omega, h3, h4⟩, ?_⟩
    unfold ix; rw [show (r + 1).toNat = r.toNat + 1 by omega]; omega
  · left
    have hr : 0 < r.toNat := by
      refine Nat.pos_of_ne_zero (fun h0 => ?_)
      rw [h0] at hi'; simp at hi'; omega
    have e2 : (r.toNat - 1 + 1) * g.C = (r.toNat - 1) * g.C + g.C := by rw [Nat.add_mul, Nat.one_mul]
    rw [show r.toNat - 1 + 1 = r.toNat by omega] at e2
    refine ⟨⟨by omega, by omega, h3, h4⟩, ?_⟩
    unfold ix; rw [show (r - 1).toNat = r.toNat - 1 by omega]; omega
theorem near_of {g : Grd} {r c r' c' : Int} (h : inG g r c) (h' : inG g r' c') (hw : g.white (ix g r c) = true) (hw' : g.white (ix g r' c') = true)
    (hn : (r' = r - 1 ∧ c' = c) ∨ (r' = r + 1 ∧ c' = c) ∨ (r' = r ∧ c' = c - 1) ∨ (r' = r ∧ c' = c + 1)) : g.near (ix g r c) (ix g r' c') := by
  have hd := (ix_div h).1
  have hd' := (ix_div h').1
  obtain ⟨h1, h2, h3, h4⟩ := h
  obtain ⟨h5, h6, h7, h8⟩ := h'
  refine ⟨hw, hw', ?_⟩
  rw [hd, hd']
  unfold ix
  rcases hn with ⟨rfl, rfl⟩ | ⟨rfl, rfl⟩ | ⟨rfl, rfl⟩ | ⟨rfl, rfl⟩
  · right; right
    have : (r.toNat - 1 + 1) * g.C = (r.toNat - 1) * g.C + g.C := by rw [Nat.add_mul, Nat.one_mul]
    rw [show r.toNat - 1 + 1 = r.toNat by omega] at this
    rw [show (r - 1).toNat = r.toNat - 1 by omega]; omega
  · right; left
    have : (r.toNat + 1) * g.C = r.toNat * g.C + g.C := by rw [Nat.add_mul, Nat.one_mul]
    rw [show (r + 1).toNat = r.toNat + 1 by omega]; omega
  · left; exact ⟨rfl, by right; rw [show (c - 1).toNat = c.toNat - 1 by omega]; omega⟩
  · left; exact ⟨rfl, by left; rw [show (c + 1).toNat = c.toNat + 1 by omega]; omega⟩
structure Went (g : Grd) (m d : List Bool) (r c : Int) : Prop where
  len : d.length = m.length
  more : ∀ j, m.getD j false = true → d.getD j false = true
  new : ∀ j, d.getD j false = true → m.getD j false = true ∨ (inG g r c ∧ g.white (ix g r c) = true ∧ g.Reach (ix g r c) j)
  start : inG g r c → g.white (ix g r c) = true → d.getD (ix g r c) false = true
  closed : ∀ j k, d.getD j false = true → m.getD j false = false → g.near j k → d.getD k false = true
theorem falses_mono : ∀ {m d : List Bool}, d.length = m.length → (∀ j, m.getD j false = true → d.getD j false = true) → falses d ≤ falses m
  | [], [], _, _ => Nat.le_refl _
  | [], _ :: _, h, _ => by simp at h
  | _ :: _, [], h, _ => by simp at h
  | a :: m, b :: d, h, hm => by
    have ih := falses_mono (m := m) (d := d) (by simpa using h) (fun j hj => by simpa using hm (j + 1) (by simpa using hj))
    have h0 := hm 0
    unfold falses at ih ⊢
    cases a <;> cases b <;> simp_all <;> omega
theorem dfs_went (g : Grd) (hlen : g.cells.length = g.R * g.C) : ∀ (n : Nat) (m : List Bool) (r c : Int), m.length = g.cells.length → falses m < n → Went g m (dfs g n m r c) r c
  | 0, _, _, _, _, h => by omega
  | n + 1, m, r, c, hm, hf => by
    unfold dfs
    by_cases hfree : freeAt g m r c = true
    · rw [if_pos hfree]
      simp only [freeAt, Bool.and_eq_true, decide_eq_true_eq, Bool.not_eq_true'] at hfree
      obtain ⟨hin, hnm, hw⟩ := hfree
      have hil : ix g r c < m.length := by rw [hm, hlen]; exact ix_lt hin
      have hfs := falses_set hil hnm
      generalize hm1 : m.set (ix g r c) true = m1 at *
      have hg1 : ∀ j, m1.getD j false = if ix g r c = j then true else m.getD j false := fun j => by rw [← hm1]; exact getB_set hil
      have hl1 : m1.length = g.cells.length := by rw [← hm1]; simpa using hm
      have w1 := dfs_went g hlen n m1 (r - 1) c hl1 (by omega)
      generalize dfs g n m1 (r - 1) c = d1 at *
      have f1 := falses_mono w1.len w1.more
      have w2 := dfs_went g hlen n d1 (r + 1) c (by rw [w1.len]; exact hl1) (by omega)
      generalize dfs g n d1 (r + 1) c = d2 at *
      have f2 := falses_mono w2.len w2.more
      have w3 := dfs_went g hlen n d2 r (c - 1) (by rw [w2.len, w1.len]; exact hl1) (by omega)
      generalize dfs g n d2 r (c - 1) = d3 at *
      have f3 := falses_mono w3.len w3.more
      have w4 := dfs_went g hlen n d3 r (c + 1) (by rw [w3.len, w2.len, w1.len]; exact hl1) (by omega)
      generalize dfs g n d3 r (c + 1) = d4 at *
      have hstep : ∀ {r' c' : Int} {j : Nat}, ((r' = r - 1 ∧ c' = c) ∨ (r' = r + 1 ∧ c' = c) ∨ (r' = r ∧ c' = c - 1) ∨ (r' = r ∧ c' = c + 1)) → (inG g r' c' ∧ g.white (ix g r' c') = true ∧ g.Reach (ix g r' c') j) → m.getD j false = true ∨ (inG g r c ∧ g.white (ix g r c) = true ∧ g.Reach (ix g r c) j) :=
        fun hn ⟨h1, h2, h3⟩ => .inr ⟨hin, hw, reach_trans (Grd.Reach.step .refl (near_of hin h1 hw h2 hn)) h3⟩
      refine ⟨by rw [w4.len, w3.len, w2.len, w1.len, hl1, hm], fun j hj => ?_, fun j hj => ?_, fun _ _ => ?_, fun j k hj hjm hn => ?_⟩
      · exact w4.more _ (w3.more _ (w2.more _ (w1.more _ (by rw [hg1]; split; exact rfl; exact hj))))
      · rcases w4.new j hj with h4 | h4
        · rcases w3.new j h4 with h3 | h3
          · rcases w2.new j h3 with h2 | h2
            · rcases w1.new j h2 with h1 | h1
              · rw [hg1] at h1
                split at h1
                · rename_i e; subst e; exact .inr ⟨hin, hw, .refl⟩
                · exact .inl h1
              · exact hstep (.inl ⟨rfl, rfl⟩) h1
            · exact hstep (.inr (.inl ⟨rfl, rfl⟩)) h2
          · exact hstep (.inr (.inr (.inl ⟨rfl, rfl⟩))) h3
        · exact hstep (.inr (.inr (.inr ⟨rfl, rfl⟩))) h4
      · exact w4.more _ (w3.more _ (w2.more _ (w1.more _ (by rw [hg1, if_pos rfl]))))
      · by_cases e : ix g r c = j
        · subst e
          have hwk := hn.2.1
          rcases near_cases hin hlen hn with ⟨h1, rfl⟩ | ⟨h1, rfl⟩ | ⟨h1, rfl⟩ | ⟨h1, rfl⟩
          · exact w4.more _ (w3.more _ (w2.more _ (w1.start h1 hwk)))
          · exact w4.more _ (w3.more _ (w2.start h1 hwk))
          · exact w4.more _ (w3.start h1 hwk)
          · exact w4.start h1 hwk
        · have h0 : m1.getD j false = false := by rw [hg1, if_neg e]; exact hjm
          cases h1 : d1.getD j false
          · cases h2 : d2.getD j false
            · cases h3 : d3.getD j false
              · exact w4.closed j k hj h3 hn
              · exact w4.more _ (w3.closed j k h3 h2 hn)
            · exact w4.more _ (w3.more _ (w2.closed j k h2 h1 hn))
          · exact w4.more _ (w3.more _ (w2.more _ (w1.closed j k h1 h0 hn)))
    · rw [if_neg hfree]
      refine ⟨rfl, fun _ h => h, fun _ h => .inl h, fun hin hw => ?_, fun j k h1 h2 => by rw [h1] at h2; simp at h2⟩
      cases hmx : m.getD (ix g r c) false
      · exfalso; apply hfree; simp only [freeAt, hmx, hw, Bool.not_false, Bool.and_true, decide_eq_true_eq]; exact hin
      · rfl
theorem listBool_ext {a b : List Bool} (hl : a.length = b.length) (h : ∀ j, j < a.length → (a.getD j false = true ↔ b.getD j false = true)) : a = b := by
  refine List.ext_getElem? (fun j => ?_)
  by_cases hj : j < a.length
  · have hb : j < b.length := by omega
    have := h j hj
    rw [List.getD_eq_getElem?_getD, List.getD_eq_getElem?_getD, List.getElem?_eq_getElem hj, List.getElem?_eq_getElem hb] at this
    rw [List.getElem?_eq_getElem hj, List.getElem?_eq_getElem hb]
    simp only [Option.getD_some] at this
    rw [Bool.eq_iff_iff.2 this]
  · rw [List.getElem?_eq_none (by omega), List.getElem?_eq_none (by omega)]
theorem dfs_met (g : Grd) (hlen : g.cells.length = g.R * g.C) (hC : 0 < g.C) {i n : Nat} (hi : g.white i = true) (hn : falses (metL g i) < n) : dfs g n (metL g i) ((i / g.C : Nat) : Int) ((i % g.C : Nat) : Int) = metL g (i + 1) := by
  have hil := white_lt hi
  have hin : inG g ((i / g.C : Nat) : Int) ((i % g.C : Nat) : Int) := by
    have h1 := Nat.div_lt_of_lt_mul (show i < g.C * g.R by rw [Nat.mul_comm, ← hlen]; exact hil)
    exact ⟨Int.natCast_nonneg _, Int.ofNat_lt.2 h1, Int.natCast_nonneg _, Int.ofNat_lt.2 (Nat.mod_lt i hC)⟩
  have hix : ix g ((i / g.C : Nat) : Int) ((i % g.C : Nat) : Int) = i := by
    unfold ix
    rw [Int.toNat_natCast, Int.toNat_natCast, Nat.mul_comm]; exact Nat.div_add_mod i g.C
  have w := dfs_went g hlen n (metL g i) ((i / g.C : Nat) : Int) ((i % g.C : Nat) : Int) (metL_len g i) hn
  have hclosed : ∀ j k, g.before i j → g.near j k → g.before i k := fun j k ⟨q, h1, h2, h3⟩ hn => ⟨q, h1, h2, h3.step hn⟩
  refine listBool_ext (by rw [w.len, metL_len, metL_len]) (fun j hj => ?_)
  have hj' : j < g.cells.length := by rw [w.len, metL_len] at hj; exact hj
  rw [metL_get g (i + 1) hj', before_succ]
  constructor
  · intro h
    rcases w.new j h with h1 | ⟨_, h2, h3⟩
    · exact .inl ((metL_get g i hj').1 h1)
    · rw [hix] at h2 h3; exact .inr ⟨h2, h3⟩
  · rintro (h | ⟨_, h⟩)
    · exact w.more j ((metL_get g i hj').2 h)
    · clear hj hj'
      induction h with
      | refl => have := w.start hin (by rw [hix]; exact hi); rwa [hix] at this
      | step hr hn ih =>
        rename_i p q
        have hp : p < g.cells.length := white_lt hn.1
        have hq : q < g.cells.length := white_lt hn.2.1
        cases hm : (metL g i).getD p false
        · exact w.closed p q ih hm hn
        · exact w.more q ((metL_get g i hq).2 (hclosed p q ((metL_get g i hp).1 hm) hn))
end Go.Rd

namespace Go.Rd
open Go.Proofs
set_option linter.unusedSimpArgs false
set_option linter.unusedVariables false
set_option maxRecDepth 10000
set_option maxHeartbeats 4000000
abbrev ptrV (b : Nat) : Value := .pointer (some ⟨b, 0, none⟩)
abbrev visF (b1 b3 b4 : Nat) : Value := .func (.func F_impl_PartsOf_1) #[] [ptrV b1, ptrV b3, ptrV b4].toArray
abbrev grdC (g : Grd) : Array Value := [Value.int .i64 g.rows, .int .i64 g.cols, .string ⟨⟨g.cells⟩⟩].toArray
abbrev visH (g : Grd) (b1 b3 b4 bm t1 t3 t4 tb cap : Nat) (rest : List Value) (m : List Bool) : List (Nat × Obj) :=
  [(b1, .cells (grdC g) t1 (0, 0)), (b3, .cells [Value.slice (some ⟨bm, 0, none⟩) g.cells.length cap].toArray t3 (0, 0)), (b4, .cells [visF b1 b3 b4].toArray t4 (0, 0)), (bm, .cells (boolCells m rest) tb (0, 0))]
theorem dfs_len (g : Grd) : ∀ (n : Nat) (m : List Bool) (r c : Int), (dfs g n m r c).length = m.length
  | 0, _, _, _ => rfl
  | n + 1, m, r, c => by unfold dfs; split <;> simp [dfs_len g n]
theorem falses_dfs (g : Grd) : ∀ (n : Nat) (m : List Bool) (r c : Int), falses (dfs g n m r c) ≤ falses m := by
  intro n
  induction n with
  | zero => intro m r c; exact Nat.le_refl _
  | succ n ih =>
    intro m r c
    unfold dfs
    split
    · refine Nat.le_trans (ih _ _ _) (Nat.le_trans (ih _ _ _) (Nat.le_trans (ih _ _ _) (Nat.le_trans (ih _ _ _) ?_)))
      refine falses_mono (by simp) (fun j hj => ?_)
      rw [List.getD_eq_getElem?_getD, List.getElem?_set]
      have := getD_lt hj
      split
      · rename_i e; subst e; simp [this]
      · rw [← List.getD_eq_getElem?_getD]; exact hj
    · exact Nat.le_refl _
theorem visF_one (b1 b3 b4 : Nat) : ∀ v ∈ ([ptrV b1, ptrV b3, ptrV b4].toArray).toList, OneV v := by
  intro v hv
  simp only [List.mem_cons, List.not_mem_nil, or_false] at hv
  rcases hv with rfl | rfl | rfl <;> exact oneV_ptr _
theorem visit_ok (g : Grd) (hg : isGrid g = true) (b1 b3 b4 bm t1 t3 t4 tb cap : Nat) (rest : List Value) : ∀ (n : Nat) (m : List Bool) (r c : Int), m.length = g.cells.length → falses m < n → -1 ≤ r → r ≤ 6 → -1 ≤ c → c ≤ 6 →
    CallsP PP F_impl_PartsOf_1 [.v (.int .i64 r), .v (.int .i64 c), .v (.val (ptrV b1)), .v (.val (ptrV b3)), .v (.val (ptrV b4))]
      (visH g b1 b3 b4 bm t1 t3 t4 tb cap rest m) ((visH g b1 b3 b4 bm t1 t3 t4 tb cap rest (dfs g n m r c)).map (·.2)) [] := by
  obtain ⟨R, C, hr, hc, hR, hC, r2, r6, c2, c6, hlen, h36⟩ := grid_nat hg
  intro n
  induction n with
  | zero => intro m r c _ h; omega
  | succ n ih =>
    intro m r c hm hf r0 r6' c0 c6'
    refine SP_impl_PartsOf_1 [1000, 1001, 1002, 1003] rfl ⟨Nat.le_of_ble_eq_true rfl, by simp⟩ (by decide) rfl rfl (fun Q hQ => ?_)
    have hend : ∀ E : Env, get E 1000 = .hold b1 (.cells (grdC g) t1 (0, 0)) → get E 1001 = .hold b3 (.cells [Value.slice (some ⟨bm, 0, none⟩) g.cells.length cap].toArray t3 (0, 0)) → get E 1002 = .hold b4 (.cells [visF b1 b3 b4].toArray t4 (0, 0)) →
        get E 1003 = .hold bm (.cells (boolCells (dfs g (n + 1) m r c) rest) tb (0, 0)) → Q E := fun E h1 h2 h3 h4 => hQ E ⟨rfl, h1, h2, h3, h4, trivial⟩
    clear hQ
    have hat := at_ok r R
    have hat2 := at_ok c C
    rw [← hr] at hat
    rw [← hc] at hat2
    by_cases hin : inG g r c
    · have hin' := hin
      obtain ⟨h1, h2, h3, h4⟩ := hin'
      rw [hR] at h2; rw [hC] at h4
      have hA : (decide (0 ≤ r) && decide (r < g.rows)) = true := by rw [hr]; simp [h1, h2]
      have hB : (decide (0 ≤ c) && decide (c < g.cols)) = true := by rw [hc]; simp [h3, h4]
      have hil : ix g r c < g.cells.length := by
        have hrc := ix_lt hin
        rw [hR, hC] at hrc
        rw [hlen]; exact hrc
      have hir : IntKind.i64.wrap (IntKind.i64.wrap (r * g.cols) + c) = ((ix g r c : Nat) : Int) := by
        obtain ⟨rn, rfl⟩ := Int.eq_ofNat_of_zero_le h1
        obtain ⟨cn, rfl⟩ := Int.eq_ofNat_of_zero_le h3
        have hle : rn * C ≤ 36 := Nat.le_trans (Nat.mul_le_mul (show rn ≤ 6 by omega) c6) (by decide)
        rw [hc]
        have e1 : ((rn : Int) * (C : Int)) = ((rn * C : Nat) : Int) := by rw [Int.natCast_mul]
        have w1 : IntKind.i64.wrap ((rn * C : Nat) : Int) = ((rn * C : Nat) : Int) := w64 (by omega) (by omega)
        rw [e1, w1, w64 (by omega) (by omega)]
        simp only [ix, hC, Int.toNat_natCast]; omega
      have hixm : ix g r c < m.length := by omega
      cases hmx : m.getD (ix g r c) false
      · -- a white cell that was not met, or a black one
        cases hw : g.white (ix g r c)
        · have hd : dfs g (n + 1) m r c = m := by
            unfold dfs; rw [if_neg]; simp [freeAt, hw]
          rw [hd] at hend
          repeat' (first|refine mid_fldP rfl rfl rfl ?_|refine mid_ldP (m := 1000) (dv := .int .i64 g.rows) rfl rfl rfl rfl rfl ?_|refine goM rfl ?_|refine goR rfl ?_|refine goX rfl ?_|refine goC (hat) rfl rfl rfl rfl ?_)
          rw [hA]
          repeat' (first|refine mid_fldP rfl rfl rfl ?_|refine mid_ldP (m := 1000) (dv := .int .i64 g.cols) rfl rfl rfl rfl rfl ?_|refine goM rfl ?_|refine goC (hat2) rfl rfl rfl rfl ?_)
          rw [hB]
          repeat' (first|refine mid_fldP rfl rfl rfl ?_|refine mid_ldP (m := 1000) (dv := .int .i64 g.cols) rfl rfl rfl rfl rfl ?_|refine mid_ldP (m := 1001) (dv := .val (.slice (some ⟨bm, 0, none⟩) g.cells.length cap)) rfl rfl rfl ⟨rfl, rfl, rfl⟩ rfl ?_|refine mid_idxPn (i := ix g r c) (o' := ix g r c) hir hil (by omega) rfl rfl rfl ?_|refine mid_ldP (m := 1003) (dv := .bool false) rfl rfl (boolCells_get hixm hmx) rfl rfl ?_|refine mid_ldP (m := 1000) (dv := .str g.cells) rfl rfl rfl rfl rfl ?_|refine mid_sidxn (n := ix g r c) hir hil rfl rfl rfl rfl ?_|refine goM rfl ?_|refine goY rfl ?_)
          rw [show ((g.cells[ix g r c].toNat : Int) != 46) = true by have := white_at hil; rw [hw] at this; simp only [bne, ← this, cv]; rfl]
          repeat' refine goR rfl ?_
          exact .ret (hend _ rfl rfl rfl rfl)
        · have hfree : freeAt g m r c = true := by unfold freeAt; rw [hmx, hw, decide_eq_true hin]; rfl
          have hfs := falses_set hixm hmx
          have hd : dfs g (n + 1) m r c = dfs g n (dfs g n (dfs g n (dfs g n (m.set (ix g r c) true) (r - 1) c) (r + 1) c) r (c - 1)) r (c + 1) := by
            rw [show dfs g (n + 1) m r c = _ from rfl]; simp only [dfs, hfree, if_true]
          rw [hd] at hend
          have w1 : IntKind.i64.wrap (r - 1) = r - 1 := w64 (by omega) (by omega)
          have w2 : IntKind.i64.wrap (r + 1) = r + 1 := w64 (by omega) (by omega)
          have w3 : IntKind.i64.wrap (c - 1) = c - 1 := w64 (by omega) (by omega)
          have w4 : IntKind.i64.wrap (c + 1) = c + 1 := w64 (by omega) (by omega)
          have l0 : (m.set (ix g r c) true).length = g.cells.length := by simpa using hm
          generalize hm0 : m.set (ix g r c) true = m0 at *
          have v1 := ih m0 (r - 1) c l0 (by omega) (by omega) (by omega) (by omega) (by omega)
          have f1 := falses_dfs g n m0 (r - 1) c
          have l1 := dfs_len g n m0 (r - 1) c
          have v2 := ih (dfs g n m0 (r - 1) c) (r + 1) c (by omega) (by omega) (by omega) (by omega) (by omega) (by omega)
          generalize dfs g n m0 (r - 1) c = d1 at *
          have f2 := falses_dfs g n d1 (r + 1) c
          have l2 := dfs_len g n d1 (r + 1) c
          have v3 := ih (dfs g n d1 (r + 1) c) r (c - 1) (by omega) (by omega) (by omega) (by omega) (by omega) (by omega)
          generalize dfs g n d1 (r + 1) c = d2 at *
          have f3 := falses_dfs g n d2 r (c - 1)
          have l3 := dfs_len g n d2 r (c - 1)
          have v4 := ih (dfs g n d2 r (c - 1)) r (c + 1) (by omega) (by omega) (by omega) (by omega) (by omega) (by omega)
          generalize dfs g n d2 r (c - 1) = d3 at *
          rw [← w1] at v1
          rw [← w2] at v2
          rw [← w3] at v3
          rw [← w4] at v4
          repeat' (first|refine mid_fldP rfl rfl rfl ?_|refine mid_ldP (m := 1000) (dv := .int .i64 g.rows) rfl rfl rfl rfl rfl ?_|refine goM rfl ?_|refine goR rfl ?_|refine goX rfl ?_|refine goC (hat) rfl rfl rfl rfl ?_)
          rw [hA]
          repeat' (first|refine mid_fldP rfl rfl rfl ?_|refine mid_ldP (m := 1000) (dv := .int .i64 g.cols) rfl rfl rfl rfl rfl ?_|refine goM rfl ?_|refine goC (hat2) rfl rfl rfl rfl ?_)
          rw [hB]
          repeat' (first|refine mid_fldP rfl rfl rfl ?_|refine mid_ldP (m := 1000) (dv := .int .i64 g.cols) rfl rfl rfl rfl rfl ?_|refine mid_ldP (m := 1001) (dv := .val (.slice (some ⟨bm, 0, none⟩) g.cells.length cap)) rfl rfl rfl ⟨rfl, rfl, rfl⟩ rfl ?_|refine mid_idxPn (i := ix g r c) (o' := ix g r c) hir hil (by omega) rfl rfl rfl ?_|refine mid_ldP (m := 1003) (dv := .bool false) rfl rfl (boolCells_get hixm hmx) rfl rfl ?_|refine mid_ldP (m := 1000) (dv := .str g.cells) rfl rfl rfl rfl rfl ?_|refine mid_sidxn (n := ix g r c) hir hil rfl rfl rfl rfl ?_|refine goM rfl ?_|refine goY rfl ?_)
          rw [show ((g.cells[ix g r c].toNat : Int) != 46) = false by have := white_at hil; rw [hw] at this; simp only [bne, ← this, cv]; rfl]
          repeat' (first|refine mid_fldP rfl rfl rfl ?_|refine mid_ldP (m := 1000) (dv := .int .i64 g.cols) rfl rfl rfl rfl rfl ?_|refine mid_ldP (m := 1001) (dv := .val (.slice (some ⟨bm, 0, none⟩) g.cells.length cap)) rfl rfl rfl ⟨rfl, rfl, rfl⟩ rfl ?_|refine mid_idxPn (i := ix g r c) (o' := ix g r c) hir hil (by omega) rfl rfl rfl ?_|refine mid_stoP (m := 1003) (u := .bool true) rfl rfl rfl rfl (by rw [boolCells_size]; omega) (by simp) (boolCells_set hixm) ?_|refine goM rfl ?_|refine goR rfl ?_|refine goX rfl ?_|refine goY rfl ?_)
          rw [hm0]
          repeat' (first|refine mid_ldP (m := 1002) (dv := .val (visF b1 b3 b4)) rfl rfl rfl ⟨rfl, rfl, rfl⟩ rfl ?_|refine mid_callvQ (args := [_, _]) [1000, 1001, 1002, 1003] (by kernel_rfl) rfl (visF_one b1 b3 b4) v1 ⟨rfl, rfl, rfl, rfl, trivial⟩ (by decide) rfl rfl rfl rfl rfl (by decide) rfl ?_|refine mid_callvQ (args := [_, _]) [1000, 1001, 1002, 1003] (by kernel_rfl) rfl (visF_one b1 b3 b4) v2 ⟨rfl, rfl, rfl, rfl, trivial⟩ (by decide) rfl rfl rfl rfl rfl (by decide) rfl ?_|refine mid_callvQ (args := [_, _]) [1000, 1001, 1002, 1003] (by kernel_rfl) rfl (visF_one b1 b3 b4) v3 ⟨rfl, rfl, rfl, rfl, trivial⟩ (by decide) rfl rfl rfl rfl rfl (by decide) rfl ?_|refine mid_callvQ (args := [_, _]) [1000, 1001, 1002, 1003] (by kernel_rfl) rfl (visF_one b1 b3 b4) v4 ⟨rfl, rfl, rfl, rfl, trivial⟩ (by decide) rfl rfl rfl rfl rfl (by decide) rfl ?_|refine goM rfl ?_|refine goR rfl ?_|refine goX rfl ?_|refine goY rfl ?_)
          rw [w4]
          exact .done (hend _ rfl rfl rfl rfl)
      · have hd : dfs g (n + 1) m r c = m := by
          unfold dfs; rw [if_neg]; unfold freeAt; rw [hmx]; simp
        rw [hd] at hend
        repeat' (first|refine mid_fldP rfl rfl rfl ?_|refine mid_ldP (m := 1000) (dv := .int .i64 g.rows) rfl rfl rfl rfl rfl ?_|refine goM rfl ?_|refine goR rfl ?_|refine goX rfl ?_|refine goC (hat) rfl rfl rfl rfl ?_)
        rw [hA]
        repeat' (first|refine mid_fldP rfl rfl rfl ?_|refine mid_ldP (m := 1000) (dv := .int .i64 g.cols) rfl rfl rfl rfl rfl ?_|refine goM rfl ?_|refine goC (hat2) rfl rfl rfl rfl ?_)
        rw [hB]
        repeat' (first|refine mid_fldP rfl rfl rfl ?_|refine mid_ldP (m := 1000) (dv := .int .i64 g.cols) rfl rfl rfl rfl rfl ?_|refine mid_ldP (m := 1001) (dv := .val (.slice (some ⟨bm, 0, none⟩) g.cells.length cap)) rfl rfl rfl ⟨rfl, rfl, rfl⟩ rfl ?_|refine mid_idxPn (i := ix g r c) (o' := ix g r c) hir hil (by omega) rfl rfl rfl ?_|refine mid_ldP (m := 1003) (dv := .bool true) rfl rfl (boolCells_get hixm hmx) rfl rfl ?_|refine goM rfl ?_|refine goR rfl ?_|refine goY rfl ?_)
        exact .ret (hend _ rfl rfl rfl rfl)
    · have hd : dfs g (n + 1) m r c = m := by
        unfold dfs; rw [if_neg]; simp [freeAt, hin]
      rw [hd] at hend
      by_cases hA : (decide (0 ≤ r) && decide (r < g.rows)) = true
      · have hB : (decide (0 ≤ c) && decide (c < g.cols)) = false := by
          rw [Bool.eq_false_iff]
          intro h
          apply hin
          simp only [Bool.and_eq_true, decide_eq_true_eq] at hA h
          exact ⟨hA.1, by rw [hR]; omega, h.1, by rw [hC]; omega⟩
        repeat' (first|refine mid_fldP rfl rfl rfl ?_|refine mid_ldP (m := 1000) (dv := .int .i64 g.rows) rfl rfl rfl rfl rfl ?_|refine goM rfl ?_|refine goR rfl ?_|refine goX rfl ?_|refine goC (hat) rfl rfl rfl rfl ?_)
        rw [hA]
        repeat' (first|refine mid_fldP rfl rfl rfl ?_|refine mid_ldP (m := 1000) (dv := .int .i64 g.cols) rfl rfl rfl rfl rfl ?_|refine goM rfl ?_|refine goC (hat2) rfl rfl rfl rfl ?_)
        rw [hB]
        repeat' (first|refine goM rfl ?_|refine goR rfl ?_|refine goY rfl ?_)
        exact .ret (hend _ rfl rfl rfl rfl)
      · have hA' : (decide (0 ≤ r) && decide (r < g.rows)) = false := by simpa using hA
        repeat' (first|refine mid_fldP rfl rfl rfl ?_|refine mid_ldP (m := 1000) (dv := .int .i64 g.rows) rfl rfl rfl rfl rfl ?_|refine goM rfl ?_|refine goR rfl ?_|refine goX rfl ?_|refine goC (hat) rfl rfl rfl rfl ?_)
        rw [hA']
        repeat' (first|refine goM rfl ?_|refine goR rfl ?_|refine goY rfl ?_)
        exact .ret (hend _ rfl rfl rfl rfl)
end Go.Rd

namespace Go.Rd
open Go.Proofs
set_option linter.unusedSimpArgs false
set_option linter.unusedVariables false
set_option maxRecDepth 10000
set_option maxHeartbeats 16000000
theorem white_eq {g : Grd} {i : Nat} (hi : i < g.cells.length) : ((g.cells[i].toNat : Int) != 46) = !g.white i := by
  rw [white_at hi]; rfl
theorem getDB {s : List Bool} {i : Nat} (h : i < s.length) : s[i] = s.getD i false := by rw [List.getD_eq_getElem?_getD, List.getElem?_eq_getElem h]; rfl
theorem falses_le (s : List Bool) : falses s ≤ s.length := List.length_filter_le _ _
section
variable {P : Program} {Q : Env → Prop} {l : List GOp} {keep : List Nat} {k : List It} {E : Env}
theorem mid_ldHB {xs : List Bool} {d m i : Nat} {x : X} {fr : Bool} {v : Value} {bs : List Nat} {e sz bys : Nat} (hx : vw E x = .gp m i 0) (hg : get E m = .heap fr v bs e sz bys (xs.map rB)) (hi : i < xs.length)
    (hp : okPut d (.v (.bool (xs.getD i false))) E = true) (hm : Mid 0 P Q l keep k ((d, .v (.bool (xs.getD i false))) :: E)) : Mid 0 P Q (⟨some d, none, .ld x⟩ :: l) keep k E :=
  mid_ldH hx hg hi (by rw [← getDB hi]; rfl) rfl hp hm
end
theorem l10Reach_ok (g : Grd) (hg : isGrid g = true) (i : Nat) (hi : g.white i = true) :
    CallsL PP F_spec_l10Reach T_bool 1 1 ((List.replicate g.cells.length false).map rB) ((reachL g i).map rB) (fun v => [.agg (rGrd g), .v (.val v), .v (.int .i64 i)]) (fun v => [.v (.val v)]) := by
  obtain ⟨R, C, hr, hc, hR, hC, r2, r6, c2, c6, hlen, h36⟩ := grid_nat hg
  have hil := white_lt hi
  have hG : rGrd g = [dI R, dI C, dS g.cells] := by simp only [rGrd, hr, hc]
  rw [hG]
  refine SL_spec_l10Reach (fun v => rfl) (fun v => ⟨Nat.le_of_ble_eq_true rfl, Nat.le_of_ble_eq_true rfl⟩) (fun v bs => ?_)
  have hC' : 2 ≤ g.C ∧ g.C ≤ 6 := by omega
  have key : ∀ (m : Nat) (s : List Bool) (bs : List Nat), SweepOK g i s → falses s < m → L_spec_l10Reach_0 PP (fun E => resP E [.tmp 6] = some [.v (.val v)] ∧ ∃ bs', get E 1000 = .heap false v bs' T_bool 1 1 ((reachL g i).map rB))
      [(1, .v (.val v)), (3, .box [dI R, dI C, dS g.cells]), (7, .v (.bool true)), (1000, .heap false v bs T_bool 1 1 (s.map rB))] := by
    intro m
    induction m with
    | zero => intro s bs _ h; omega
    | succ m ihm =>
      intro s0 bs hs0 hf0
      have key2 : ∀ (k : Nat) (s : List Bool) (again : Bool) (bs : List Nat), SweepOK g i s → (again = false → s = s0 ∧ ∀ j, j < k → doneAt g s0 j) → (again = true → falses s < falses s0) →
          L_spec_l10Reach_1 PP (fun E => resP E [.tmp 6] = some [.v (.val v)] ∧ ∃ bs', get E 1000 = .heap false v bs' T_bool 1 1 ((reachL g i).map rB))
          [(1, .v (.val v)), (3, .box [dI R, dI C, dS g.cells]), (7, .v (.bool again)), (8, .v (.int .i64 k)), (1000, .heap false v bs T_bool 1 1 (s.map rB))] := up g.cells.length (fun k ih s again bs hs ha1 ha2 => ?_)
      · repeat' (first|refine goM rfl ?_|refine goR rfl ?_|refine goX rfl ?_|refine goY rfl ?_)
        refine run_loopF rfl ?_
        exact key2 0 s0 false bs hs0 (fun _ => ⟨rfl, fun j hj => by omega⟩) (fun h => by simp at h)
      · have hsl := hs.len
        repeat' (first|refine mid_lenH (m := 1000) rfl rfl rfl ?_|refine goM rfl ?_|refine goR rfl ?_|refine goX rfl ?_|refine goY rfl ?_)
        simp only [List.length_map, hsl]
        refine run_cnd_lt rfl (fun hk => ?_) (fun hk => ?_)
        · have ih := ih hk
          rw [← wsucc (show k < 9223372036854775807 by omega)] at ih
          have hks : k < s.length := by omega
          have hsD := getDB hks
          have hdone : ∀ j, j < k + 1 → again = false → (doneAt g s k) → doneAt g s0 j := fun j hj h0 hd => by
            by_cases e : j = k
            · subst e; rw [← (ha1 h0).1]; exact hd
            · exact (ha1 h0).2 j (by omega)
          have hmod : k % C < C := Nat.mod_lt _ (by omega)
          have hml : k % C ≤ k := Nat.mod_le _ _
          have hdm := Nat.div_add_mod k C
          have hdiv : k / C < R := Nat.div_lt_of_lt_mul (by rw [Nat.mul_comm]; omega)
          have hmul : C * (k / C) + C ≤ C * R := by have := Nat.mul_le_mul_left C (show k / C + 1 ≤ R from hdiv); rw [Nat.mul_add, Nat.mul_one] at this; exact this
          have hlen2 : g.cells.length = C * R := by rw [hlen, Nat.mul_comm]
          repeat' (first|refine mid_idxH (m := 1000) rfl rfl rfl hks rfl ?_|refine mid_ldH rfl rfl hks rfl rfl rfl ?_|refine goM rfl ?_|refine goR rfl ?_|refine goX rfl ?_)
          cases hsk : s[k]
          · have hsk' : s.getD k false = false := by rw [← hsD]; exact hsk
            repeat' (first|refine mid_sidxs rfl rfl hk rfl ?_|refine goM rfl ?_|refine goY rfl ?_)
            rw [white_eq hk]
            cases hw : g.white k
            · repeat' (first|refine goM rfl ?_|refine goR rfl ?_|refine goX rfl ?_|refine goY rfl ?_)
              refine run_backF rfl ?_
              exact ih s again bs hs (fun h => ⟨(ha1 h).1, fun j hj => hdone j hj h (.inr (.inl hw))⟩) ha2
            · have hw1 : IntKind.i64.wrap ((k : Int) - 1) = (k : Int) - 1 := w64 (by omega) (by omega)
              have hw2 : IntKind.i64.wrap ((k : Int) + 1) = (k : Int) + 1 := w64 (by omega) (by omega)
              have hw3 : IntKind.i64.wrap ((k : Int) + (C : Int)) = (k : Int) + C := w64 (by omega) (by omega)
              have hw4 : IntKind.i64.wrap ((k : Int) - (C : Int)) = (k : Int) - C := w64 (by omega) (by omega)
              have hw5 : IntKind.i64.wrap (((k % C : Nat) : Int) + 1) = ((k % C : Nat) : Int) + 1 := w64 (by omega) (by omega)
              have hn : nbr g s k = ((((decide ((0 : Int) < ((k % C : Nat) : Int)) && s.getD (k - 1) false) || (decide (IntKind.i64.wrap (((k % C : Nat) : Int) + 1) < (C : Int)) && s.getD (k + 1) false)) || (decide ((C : Int) ≤ (k : Int)) && s.getD (k - C) false)) || (decide (IntKind.i64.wrap ((k : Int) + (C : Int)) < ((s.map rB).length : Int)) && s.getD (k + C) false)) := by
                rw [hw3, hw5, List.length_map]
                simp only [nbr, hC]
                congr 1; congr 1; congr 1
                all_goals congr 1
                all_goals exact decide_eq_decide.2 (by omega)
              have hT : nbr g s k = true → L_spec_l10Reach_1 PP (fun E => resP E [.tmp 6] = some [.v (.val v)] ∧ ∃ bs', get E 1000 = .heap false v bs' T_bool 1 1 ((reachL g i).map rB))
                  [(1, .v (.val v)), (3, .box [dI R, dI C, dS g.cells]), (7, .v (.bool true)), (8, .v (.int .i64 (IntKind.i64.wrap ((k : Int) + 1)))), (1000, .heap false v bs T_bool 1 1 ((s.set k true).map rB))] := fun h => by
                have hfs := falses_set hks hsk'
                refine ih (s.set k true) true bs (sweep_step hs hi hC' hk hw h) (fun h => by simp at h) (fun _ => ?_)
                cases ha : again
                · rw [(ha1 ha).1] at hfs ⊢; omega
                · have := ha2 ha; omega
              have hF : nbr g s k = false → L_spec_l10Reach_1 PP (fun E => resP E [.tmp 6] = some [.v (.val v)] ∧ ∃ bs', get E 1000 = .heap false v bs' T_bool 1 1 ((reachL g i).map rB))
                  [(1, .v (.val v)), (3, .box [dI R, dI C, dS g.cells]), (7, .v (.bool again)), (8, .v (.int .i64 (IntKind.i64.wrap ((k : Int) + 1)))), (1000, .heap false v bs T_bool 1 1 (s.map rB))] := fun h =>
                ih s again bs hs (fun h0 => ⟨(ha1 h0).1, fun j hj => hdone j hj h0 (.inr (.inr h))⟩) ha2
              have f1 : decide ((0 : Int) < ((k % C : Nat) : Int)) = true → IntKind.i64.wrap ((k : Int) - 1) = ((k - 1 : Nat) : Int) ∧ k - 1 < s.length := fun h => by have := of_decide_eq_true h; omega
              have f2 : decide (IntKind.i64.wrap (((k % C : Nat) : Int) + 1) < (C : Int)) = true → IntKind.i64.wrap ((k : Int) + 1) = ((k + 1 : Nat) : Int) ∧ k + 1 < s.length := fun h => by have := of_decide_eq_true h; omega
              have f3 : decide ((C : Int) ≤ (k : Int)) = true → IntKind.i64.wrap ((k : Int) - (C : Int)) = ((k - C : Nat) : Int) ∧ k - C < s.length := fun h => by have := of_decide_eq_true h; omega
              have f4 : decide (IntKind.i64.wrap ((k : Int) + (C : Int)) < ((s.map rB).length : Int)) = true → IntKind.i64.wrap ((k : Int) + (C : Int)) = ((k + C : Nat) : Int) ∧ k + C < s.length := fun h => by have := of_decide_eq_true h; rw [List.length_map] at this; omega
              clear ih hdone ha1 ha2 ihm hw
              repeat' (first|refine mid_rem (q := ((k % C : Nat) : Int)) rfl rfl (by omega) rfl rfl ?_|refine goM rfl ?_|refine goR rfl ?_|refine goX rfl ?_|refine goY rfl ?_)
              repeat' (first|refine mid_idxH (d := 95) (m := 1000) rfl rfl rfl hks rfl ?_|refine mid_idxHn (d := 42) (m := 1000) (n := k - 1) rfl rfl rfl (by exact (f1 hb).1) (by exact (f1 hb).2) rfl ?_|refine mid_ldHB (d := 43) (i := k - 1) rfl rfl (by exact (f1 hb).2) rfl ?_|refine mid_idxHn (d := 55) (m := 1000) (n := k + 1) rfl rfl rfl (by exact (f2 hb).1) (by exact (f2 hb).2) rfl ?_|refine mid_ldHB (d := 56) (i := k + 1) rfl rfl (by exact (f2 hb).2) rfl ?_|refine mid_idxHn (d := 70) (m := 1000) (n := k - C) rfl rfl rfl (by exact (f3 hb).1) (by exact (f3 hb).2) rfl ?_|refine mid_ldHB (d := 71) (i := k - C) rfl rfl (by exact (f3 hb).2) rfl ?_|refine mid_idxHn (d := 88) (m := 1000) (n := k + C) rfl rfl rfl (by exact (f4 hb).1) (by exact (f4 hb).2) rfl ?_|refine mid_ldHB (d := 89) (i := k + C) rfl rfl (by exact (f4 hb).2) rfl ?_|refine mid_stoH (y := true) rfl rfl rfl hks rfl rfl rfl rfl ?_|refine mid_lenH (m := 1000) rfl rfl rfl ?_|refine goM rfl ?_|refine goR rfl ?_|refine goX rfl ?_|refine goY rfl ?_|(refine mid_gdT rfl rfl (fun hb => ?_) (fun hb => ?_) <;> try rw [hb])|(refine mid_gdF rfl rfl (fun hb => ?_) (fun hb => ?_) <;> try rw [hb])|(refine run_cnd rfl (fun hb => ?_) (fun hb => ?_) <;> try rw [hb]))
              all_goals refine run_backF rfl ?_
              all_goals first | exact hT (by rw [hn]; clear hT hF hn hw1 hw2 hw3 hw4 hw5; simp only [*, Bool.true_and, Bool.false_and, Bool.and_true, Bool.or_true, Bool.true_or, Bool.or_false, Bool.false_or]) | exact hF (by rw [hn]; clear hT hF hn hw1 hw2 hw3 hw4 hw5; simp only [*, Bool.true_and, Bool.false_and, Bool.and_true, Bool.or_true, Bool.true_or, Bool.or_false, Bool.false_or])
          · repeat' (first|refine goM rfl ?_|refine goR rfl ?_|refine goX rfl ?_|refine goY rfl ?_)
            refine run_backF rfl ?_
            exact ih s again bs hs (fun h => ⟨(ha1 h).1, fun j hj => hdone j hj h (.inl (by rw [← hsD]; exact hsk))⟩) ha2
        · repeat' refine goR rfl ?_
          refine run_backF rfl ?_
          cases ha : again
          · have hfin : s = reachL g i := by
              rw [(ha1 ha).1]
              exact sweep_done hs0 hC' (fun j hj => (ha1 ha).2 j (by omega))
            repeat' (first|refine goM rfl ?_|refine goR rfl ?_|refine goX rfl ?_|refine goY rfl ?_)
            refine .ret ⟨rfl, bs, ?_⟩
            rw [← hfin]; rfl
          · exact ihm s bs hs (by have := ha2 ha; omega)
  have hz : ∀ j, ((List.replicate g.cells.length false).set i true).getD j false = true ↔ j = i := fun j => by
    rw [List.getD_eq_getElem?_getD, List.getElem?_set]
    by_cases e : i = j
    · subst e; simp [hil]
    · simp only [e, if_false, List.getElem?_replicate]
      split <;> simp [Ne.symm e]
  repeat' (first|refine mid_idxH (m := 1000) rfl rfl rfl (by simpa using hil) rfl ?_|refine mid_stoH (y := true) rfl rfl rfl (by simpa using hil) rfl rfl rfl rfl ?_|refine goM rfl ?_|refine goR rfl ?_|refine goX rfl ?_|refine goY rfl ?_)
  refine run_loopF rfl ?_
  exact key _ _ bs ⟨by simp, (hz i).2 rfl, fun j hj => by rw [(hz j).1 hj]; exact .refl⟩ (Nat.lt_succ_self _)
end Go.Rd

namespace Go.Rd
open Go.Proofs
set_option linter.unusedSimpArgs false
set_option linter.unusedVariables false
set_option maxRecDepth 10000
set_option maxHeartbeats 4000000
section
variable {P : Program} {Q : Env → Prop} {nf : Nat} {l : List GOp} {keep : List Nat} {k : List It} {E : Env}
theorem mid_idxoM {α : Type} {f : α → List DV} {xs : List α} {d sz n m : Nat} {x i : X} {ki : IntKind} {e bys : Nat} (hx : vw E x = .al n) (hg : get E n = .own e sz bys (xs.map f)) (hi : vw E i = .v (.int ki (m : Int))) (hm' : m < xs.length) (hp : okPut d (.oel n m 0) E = true)
    (hm : Mid (nf - 1) P Q l keep k ((d, .oel n m 0) :: E)) : Mid nf P Q (⟨some d, none, .idx sz x i⟩ :: l) keep k E := by
  have := mid_idxo (j := (m : Int)) hx hg hi (by omega) (by simpa using hm') (by simpa using hp) (Q := Q) (P := P) (l := l) (keep := keep) (k := k) (nf := nf)
  exact this (by simpa using hm)
theorem mid_ldoB {xs : List Bool} {d n i : Nat} {x : X} {e bys : Nat} (hx : vw E x = .oel n i 0) (hg : get E n = .own e 1 bys (xs.map rB)) (hi : i < xs.length)
    (hp : okPut d (.v (.bool (xs.getD i false))) E = true) (hm : Mid (nf - 1) P Q l keep k ((d, .v (.bool (xs.getD i false))) :: E)) : Mid nf P Q (⟨some d, none, .ld x⟩ :: l) keep k E := by
  refine mid_step (E1 := (d, .v (.bool (xs.getD i false))) :: E) ?_ hm
  have he : ev E (.ld x) = some (.v (.bool (xs.getD i false))) := by
    simp only [ev, hx, hg]
    rw [if_pos (by omega), getD_map rB xs hi, ← getDB hi]; rfl
  simp only [stepE, AOp.spec, Bool.false_eq_true, if_false, he, hp, if_true]
end
def mrg (s o : List Bool) (k : Nat) : List Bool := (List.range s.length).map fun j => if j < k then s.getD j false || o.getD j false else s.getD j false
theorem mrg_len (s o : List Bool) (k : Nat) : (mrg s o k).length = s.length := by simp [mrg]
theorem mrg_get (s o : List Bool) (k : Nat) {j : Nat} (h : j < s.length) : (mrg s o k).getD j false = if j < k then s.getD j false || o.getD j false else s.getD j false := by
  simp [mrg, List.getD_eq_getElem?_getD, List.getElem?_range h]
theorem listB_ext {a b : List Bool} (hl : a.length = b.length) (h : ∀ j, j < a.length → a.getD j false = b.getD j false) : a = b := by
  refine List.ext_getElem? (fun j => ?_)
  by_cases hj : j < a.length
  · rw [List.getElem?_eq_getElem hj, List.getElem?_eq_getElem (by omega)]
    have := h j hj
    rw [← getDB hj, ← getDB (show j < b.length by omega)] at this
    rw [this]
  · rw [List.getElem?_eq_none (by omega), List.getElem?_eq_none (by omega)]
theorem mrg_zero (s o : List Bool) : mrg s o 0 = s := listB_ext (mrg_len _ _ _) (fun j hj => by rw [mrg_get _ _ _ (by rw [mrg_len] at hj; exact hj)]; simp)
theorem mrg_step (s o : List Bool) {k : Nat} (hk : k < s.length) : (mrg s o k).set k (s.getD k false || o.getD k false) = mrg s o (k + 1) := by
  refine listB_ext (by simp [mrg_len]) (fun j hj => ?_)
  have hj' : j < s.length := by simpa [mrg_len] using hj
  rw [mrg_get _ _ _ hj', List.getD_eq_getElem?_getD, List.getElem?_set]
  by_cases e : k = j
  · subst e; simp [mrg_len, hk]
  · rw [if_neg e, ← List.getD_eq_getElem?_getD, mrg_get _ _ _ hj']
    have : (j < k + 1) = (j < k) := propext (by omega)
    simp only [this]
theorem mrg_all (g : Grd) (i : Nat) (hi : g.white i = true) : mrg (metL g i) (reachL g i) g.cells.length = metL g (i + 1) := by
  refine listB_ext (by simp [mrg_len, metL_len]) (fun j hj => ?_)
  have hj' : j < g.cells.length := by simpa [mrg_len, metL_len] using hj
  rw [mrg_get _ _ _ (by rw [metL_len]; exact hj'), if_pos hj', Bool.eq_iff_iff, Bool.or_eq_true, metL_get _ _ hj', reachL_get _ _ hj', metL_get _ _ hj', before_succ]
  exact ⟨fun h => h.imp_right fun h => ⟨hi, h⟩, fun h => h.imp_right (·.2)⟩
open Classical in
noncomputable def newFrom (g : Grd) (i : Nat) : Nat := (((List.range g.cells.length).drop i).filter fun i => g.white i && decide (∀ j, j < i → g.white j = true → ¬ g.Reach j i)).length
open Classical in
theorem newFrom_step (g : Grd) {i : Nat} (h : i < g.cells.length) : newFrom g i = (if g.white i = true ∧ (metL g i).getD i false = false then 1 else 0) + newFrom g (i + 1) := by
  unfold newFrom
  have e1 : (metL g i).getD i false = false ↔ ¬ g.before i i := by rw [← metL_get g i h, Bool.not_eq_true]
  have e2 := counts_iff g i
  have h3 := filter_drop (fun i => g.white i && decide (∀ j, j < i → g.white j = true → ¬ g.Reach j i)) (List.range g.cells.length) (k := i) (by simpa using h)
  rw [List.getElem_range] at h3
  rw [h3]
  by_cases hc : g.white i = true ∧ ¬ g.before i i
  · have h4 := e2.2 hc
    rw [if_pos (by simp only [Bool.and_eq_true, decide_eq_true_eq]; exact h4), if_pos ⟨hc.1, e1.2 hc.2⟩]
  · rw [if_neg (fun h => by
      simp only [Bool.and_eq_true, decide_eq_true_eq] at h
      exact hc (e2.1 h)), if_neg (fun h => hc ⟨h.1, e1.1 h.2⟩)]
theorem PartsOfS_ok (g : Grd) (hg : isGrid g = true) : CallsOK PP F_spec_PartsOf [.agg (rGrd g)] [.v (.int .i64 (partsOf g))] := by
  obtain ⟨R, C, hr, hc, hR, hC, r2, r6, c2, c6, hlen, h36⟩ := grid_nat hg
  refine S_spec_PartsOf rfl (Nat.le_of_ble_eq_true rfl) ?_
  have hpo : partsOf g = newFrom g 0 := by simp [partsOf, hg, newFrom]
  rw [hpo]
  have hgr := IsGrid_ok' g (by omega)
  have main : ∀ (i n : Nat), n ≤ i → L_spec_PartsOf_0 PP [(1, .box (rGrd g)), (3, .v (.int .i64 n)), (4, .own T_bool 1 1 ((metL g i).map rB)), (6, .v (.int .i64 i))] [.v (.int .i64 ((n + newFrom g i : Nat) : Int))] := up g.cells.length (fun i ih n hn => ?_)
  · have build : ∀ k : Nat, k ≤ g.cells.length → L_spec_PartsOf_3 PP [(1, .box (rGrd g)), (3, .v (.int .i64 0)), (4, .own T_bool 1 1 ((List.replicate k false).map rB)), (5, .v (.int .i64 k))] [.v (.int .i64 (newFrom g 0))] := up g.cells.length (fun k ih hk0 => ?_)
    · repeat' (first|refine goM rfl ?_|refine goR rfl ?_|refine goX rfl ?_|refine goY rfl ?_)
      refine run_loopF rfl ?_
      exact build 0 (by omega)
    · simp only [rGrd]
      repeat' (first|refine goM rfl ?_|refine goR rfl ?_|refine goX rfl ?_|refine goY rfl ?_)
      refine run_cnd_lt rfl (fun hk => ?_) (fun hk => ?_)
      · have ih := ih hk (by omega)
        rw [List.replicate_succ', List.map_append] at ih
        repeat' (first|refine mid_app rfl rfl rfl (by decide) rfl (by simp; omega) (by simp; omega) ?_|refine goM rfl ?_|refine goR rfl ?_|refine goX rfl ?_|refine goY rfl ?_)
        refine run_backF rfl ?_
        rw [wsucc (by omega)]
        exact ih
      · repeat' (first|refine goM rfl ?_|refine goR rfl ?_|refine goX rfl ?_|refine goY rfl ?_)
        refine run_loopF rfl ?_
        have := main 0 0 (by omega)
        rw [metL_zero, Nat.zero_add] at this
        rw [show k = g.cells.length by omega]
        exact this
  · simp only [rGrd] at ih hgr ⊢
    repeat' (first|refine goM rfl ?_|refine goR rfl ?_|refine goX rfl ?_)
    (first | refine mid_gdT rfl rfl (fun hk => ?_) (fun hk => ?_) | refine mid_gdF rfl rfl (fun hk => ?_) (fun hk => ?_) | refine run_cnd rfl (fun hk => ?_) (fun hk => ?_)) <;> try rw [hk]
    · have hk : i < g.cells.length := by simpa using hk
      repeat' (first|refine goM rfl ?_|refine goY rfl ?_|refine goC (hgr) rfl rfl rfl rfl ?_)
      rw [hg]
      have hil : i < (metL g i).length := by rw [metL_len]; exact hk
      have ih := ih hk
      rw [newFrom_step g hk]
      repeat' (first|refine mid_sidxs rfl rfl hk rfl ?_|refine goM rfl ?_|refine goR rfl ?_|refine goX rfl ?_)
      rw [show ((g.cells[i].toNat : Int) == 46) = g.white i from (white_at hk).symm]
      cases hw : g.white i
      · repeat' (first|refine goM rfl ?_|refine goR rfl ?_|refine goX rfl ?_|refine goY rfl ?_)
        refine run_backF rfl ?_
        rw [wsucc (by omega), if_neg (by simp), Nat.zero_add]
        have hm : metL g i = metL g (i + 1) := metL_ext (fun j => by rw [before_succ, hw]; simp)
        rw [hm]
        exact ih n (by omega)
      · repeat' (first|refine mid_idxoM rfl rfl rfl hil rfl ?_|refine mid_ldoB rfl rfl hil rfl ?_|refine goM rfl ?_|refine goY rfl ?_)
        cases hm : (metL g i).getD i false
        · repeat' (first|refine goM rfl ?_|refine goR rfl ?_|refine goX rfl ?_|refine goY rfl ?_)
          simp only [and_self, if_true]
          have merge : ∀ k : Nat, k ≤ g.cells.length → L_spec_PartsOf_1 PP [(1, .box (rGrd g)), (3, .v (.int .i64 ((n + 1 : Nat) : Int))), (4, .own T_bool 1 1 ((mrg (metL g i) (reachL g i) k).map rB)), (6, .v (.int .i64 i)), (7, .own T_bool 1 1 ((reachL g i).map rB)), (9, .v (.int .i64 k))] [.v (.int .i64 ((n + (1 + newFrom g (i + 1)) : Nat) : Int))] := up g.cells.length (fun k ihk hk0 => ?_)
          · have build2 : ∀ k : Nat, k ≤ g.cells.length → L_spec_PartsOf_2 PP [(1, .box (rGrd g)), (3, .v (.int .i64 ((n + 1 : Nat) : Int))), (4, .own T_bool 1 1 ((metL g i).map rB)), (6, .v (.int .i64 i)), (7, .own T_bool 1 1 ((List.replicate k false).map rB)), (8, .v (.int .i64 k))] [.v (.int .i64 ((n + (1 + newFrom g (i + 1)) : Nat) : Int))] := up g.cells.length (fun k ihb hk0 => ?_)
            · rw [wsucc (by omega)]
              refine run_loopF rfl ?_
              exact build2 0 (by omega)
            · simp only [rGrd] at ihb merge ⊢
              repeat' (first|refine goM rfl ?_|refine goR rfl ?_|refine goX rfl ?_|refine goY rfl ?_)
              simp only [List.length_map, metL_len]
              refine run_cnd_lt rfl (fun hk' => ?_) (fun hk' => ?_)
              · have ihb := ihb hk' (by omega)
                rw [List.replicate_succ', List.map_append] at ihb
                repeat' (first|refine mid_app rfl rfl rfl (by decide) rfl (by simp; omega) (by simp; omega) ?_|refine goM rfl ?_|refine goR rfl ?_|refine goX rfl ?_|refine goY rfl ?_)
                refine run_backF rfl ?_
                rw [wsucc (by omega)]
                exact ihb
              · rw [show k = g.cells.length by omega]
                repeat refine goR rfl ?_
                refine goX rfl ?_
                refine mid_gh (gh_name (d := 7) (m := 1000) rfl rfl) (fun u => ?_)
                refine goM rfl ?_
                refine goM rfl ?_
                refine goM rfl ?_
                refine mid_calloL (l10Reach_ok g hg i hw) (m := 1000) rfl rfl rfl rfl rfl rfl (by decide) (fun bs' => ?_)
                refine goM rfl ?_
                refine mid_gh (gh_un (d := 7) (m := 1000) rfl rfl (fun r hr d hd => by
                  obtain ⟨b, _, rfl⟩ := List.mem_map.1 hr
                  simp only [rB, List.mem_singleton] at hd; subst hd; rfl)) (fun _ => ?_)
                repeat' (first|refine goM rfl ?_|refine goR rfl ?_|refine goX rfl ?_|refine goY rfl ?_)
                refine run_loopF rfl ?_
                have := merge 0 (by omega)
                rw [mrg_zero] at this
                exact this
          · have hkl : (mrg (metL g i) (reachL g i) k).length = g.cells.length := by rw [mrg_len, metL_len]
            simp only [rGrd] at ihk ⊢
            repeat' (first|refine goM rfl ?_|refine goR rfl ?_|refine goX rfl ?_|refine goY rfl ?_)
            simp only [List.length_map, hkl]
            refine run_cnd_lt rfl (fun hk' => ?_) (fun hk' => ?_)
            · have ihk := ihk hk' (by omega)
              have h1 : k < (mrg (metL g i) (reachL g i) k).length := by omega
              have h2 : k < (reachL g i).length := by rw [reachL_len]; exact hk'
              have h3 : k < (metL g i).length := by rw [metL_len]; exact hk'
              have hg1 : (mrg (metL g i) (reachL g i) k).getD k false = (metL g i).getD k false := by rw [mrg_get _ _ _ h3, if_neg (by omega)]
              rw [← mrg_step _ _ h3] at ihk
              repeat' (first|refine mid_idxoM (d := 70) rfl rfl rfl h1 rfl ?_|refine mid_ldoB (d := 71) rfl rfl h1 rfl ?_|refine goM rfl ?_|refine goR rfl ?_|refine goX rfl ?_)
              rw [hg1]
              cases hc : (metL g i).getD k false
              · repeat' (first|refine mid_idxoM (d := 75) rfl rfl rfl h2 rfl ?_|refine mid_ldoB (d := 76) rfl rfl h2 rfl ?_|refine mid_idxoM (d := 78) rfl rfl rfl h1 rfl ?_|refine mid_sto_one rfl rfl rfl rfl (by rw [getD_map rB _ h1]; rfl) ?_|refine goM rfl ?_|refine goR rfl ?_|refine goX rfl ?_|refine goY rfl ?_)
                refine run_backF rfl ?_
                rw [wsucc (by omega)]
                rw [hc, Bool.false_or, List.map_set] at ihk
                exact ihk
              · repeat' (first|refine mid_idxoM (d := 78) rfl rfl rfl h1 rfl ?_|refine mid_sto_one rfl rfl rfl rfl (by rw [getD_map rB _ h1]; rfl) ?_|refine goM rfl ?_|refine goR rfl ?_|refine goX rfl ?_|refine goY rfl ?_)
                refine run_backF rfl ?_
                rw [wsucc (by omega)]
                rw [hc, Bool.true_or, List.map_set] at ihk
                exact ihk
            · repeat' (first|refine goM rfl ?_|refine goR rfl ?_|refine goX rfl ?_|refine goY rfl ?_)
              refine run_backF rfl ?_
              rw [wsucc (by omega), show k = g.cells.length by omega, mrg_all g i hw]
              have := ih (n + 1) (by omega)
              rw [Nat.add_assoc] at this
              exact this
        · repeat' (first|refine goM rfl ?_|refine goR rfl ?_|refine goX rfl ?_|refine goY rfl ?_)
          refine run_backF rfl ?_
          rw [wsucc (by omega), if_neg (by simp), Nat.zero_add]
          have hm' : metL g i = metL g (i + 1) := metL_ext (fun j => (before_met ((metL_get g i hk).1 hm)).symm)
          rw [hm']
          exact ih n (by omega)
    · have hk : ¬ i < g.cells.length := by simpa using hk
      repeat' (first|refine goM rfl ?_|refine goR rfl ?_|refine goX rfl ?_|refine goY rfl ?_)
      (first|refine run_ret rfl ?_|refine run_done rfl ?_)
      have : newFrom g i = 0 := by unfold newFrom; rw [List.drop_eq_nil_of_le (by simp; omega)]; rfl
      rw [this]; rfl
end Go.Rd

namespace Go.Rd
open Go.Proofs
set_option linter.unusedSimpArgs false
set_option linter.unusedVariables false
set_option maxRecDepth 10000
set_option maxHeartbeats 4000000
theorem is_falses : ∀ n : Nat, All2 DV.is (List.replicate n [DV.bool false]).flatten (List.replicate n (Value.bool false))
  | 0 => trivial
  | n + 1 => ⟨rfl, is_falses n⟩
theorem PartsOfI_ok (g : Grd) (hg : isGrid g = true) : CallsOK PP F_impl_PartsOf [.agg (rGrd g)] [.v (.int .i64 (partsOf g))] := by
  obtain ⟨R, C, hr, hc, hR, hC, r2, r6, c2, c6, hlen, h36⟩ := grid_nat hg
  have hpo : partsOf g = newFrom g 0 := by simp [partsOf, hg, newFrom]
  have hgr := IsGrid_ok g (by omega)
  have hC0 : 0 < g.C := by omega
  have hlen' : g.cells.length = g.R * g.C := by rw [hR, hC]; exact hlen
  rw [hg] at hgr
  refine callsOK_of_H (SQ_impl_PartsOf [] [] (fun _ => rfl) (fun _ => ⟨Nat.le_of_ble_eq_true rfl, by simp⟩) (by simp) (by simp) (fun u Q hQ => ?_))
  have hend : ∀ E : Env, resP E [.tmp 2] = some [.v (.int .i64 (partsOf g))] → Q E := fun E h => hQ E ⟨(fun _ => .bool false, fun _ => []), h, by simp, trivial⟩
  clear hQ
  have main : ∀ (b1 b3 b4 bm t1 t3 t4 cap : Nat) (rest : List Value) (i n : Nat), n ≤ i → n + newFrom g i = newFrom g 0 → L_impl_PartsOf_0 PP Q [(1, .v (.val (ptrV b1))), (3, .v (.val (ptrV b3))), (4, .v (.val (ptrV b4))), (5, .v (.int .i64 n)), (17, .v (.int .i64 g.cells.length)), (18, .v (.int .i64 i)),
      (1000, .hold b1 (.cells (grdC g) t1 (0, 0))), (1001, .hold b3 (.cells [Value.slice (some ⟨bm, 0, none⟩) g.cells.length cap].toArray t3 (0, 0))), (1002, .hold b4 (.cells [visF b1 b3 b4].toArray t4 (0, 0))), (1003, .hold bm (.cells (boolCells (metL g i) rest) T_bool (0, 0))),
      (1004, .undef), (1005, .undef), (1006, .undef), (1007, .undef), (1008, .undef), (1009, .undef)] := fun b1 b3 b4 bm t1 t3 t4 cap rest => up g.cells.length (fun i ih n hn htot => ?_)
  · repeat' (first|refine goM rfl ?_|refine goR rfl ?_|refine goX rfl ?_|refine goY rfl ?_|refine goC hgr rfl rfl rfl rfl ?_)
    refine mid_mks rfl (by omega) (by omega) rfl ?_
    refine mid_own (d := 13) (vs := List.replicate g.cells.length (Value.bool false)) 1003 rfl (is_falses _) (by intro h; have h1 := congrArg List.length h; rw [List.length_replicate, List.length_nil] at h1; have h2 := Nat.mul_le_mul r2 c2; omega) rfl (fun bm cap rest => ?_)
    repeat' (first|refine goM rfl ?_|refine goR rfl ?_|refine goX rfl ?_|refine goY rfl ?_)
    refine mid_box (d := 1) (vs := [Value.int .i64 g.rows, .int .i64 g.cols, .string ⟨⟨g.cells⟩⟩]) 1000 rfl ⟨rfl, rfl, rfl, trivial⟩ rfl (fun b1 t1 => ?_)
    refine mid_box (d := 3) (vs := [Value.slice (some ⟨bm, 0, none⟩) (List.replicate g.cells.length [DV.bool false]).length cap]) 1001 rfl ⟨⟨rfl, rfl, rfl⟩, trivial⟩ rfl (fun b3 t3 => ?_)
    refine mid_box (d := 4) (vs := [Value.nilFunc]) 1002 rfl ⟨⟨rfl, rfl, rfl⟩, trivial⟩ rfl (fun b4 t4 => ?_)
    repeat' (first|refine mid_mkf (cs := [ptrV b1, ptrV b3, ptrV b4]) rfl rfl rfl ?_|refine mid_stoP (m := 1002) (u := visF b1 b3 b4) (cs' := [visF b1 b3 b4].toArray) rfl rfl rfl ⟨rfl, rfl, rfl⟩ (by simp) (by simp) rfl ?_|refine mid_fldP rfl rfl rfl ?_|refine mid_ldP (m := 1000) (dv := .str g.cells) rfl rfl rfl rfl rfl ?_|refine goM rfl ?_|refine goR rfl ?_|refine goX rfl ?_|refine goY rfl ?_)
    refine run_loopF rfl ?_
    have := main b1 b3 b4 bm t1 t3 t4 cap rest 0 0 (by omega) (by omega)
    rw [metL_zero] at this
    simp only [List.length_replicate]
    have e : (boolCells (List.replicate g.cells.length false) rest) = (List.replicate g.cells.length (Value.bool false) ++ rest).toArray := by simp [boolCells]
    rw [e] at this
    exact this
  · repeat' (first|refine goM rfl ?_|refine goR rfl ?_|refine goX rfl ?_|refine goY rfl ?_)
    refine run_cnd_lt rfl (fun hk => ?_) (fun hk => ?_)
    · have hil : i < (metL g i).length := by rw [metL_len]; exact hk
      have ih := ih hk
      rw [newFrom_step g hk] at htot
      repeat' (first|refine mid_fldP rfl rfl rfl ?_|refine mid_ldP (m := 1000) (dv := .str g.cells) rfl rfl rfl rfl rfl ?_|refine mid_sidxs rfl rfl hk rfl ?_|refine goM rfl ?_|refine goR rfl ?_|refine goX rfl ?_|refine goY rfl ?_)
      rw [show ((g.cells[i].toNat : Int) == 46) = g.white i from (white_at hk).symm]
      cases hw : g.white i
      · repeat' (first|refine goM rfl ?_|refine goR rfl ?_|refine goX rfl ?_|refine goY rfl ?_)
        refine run_backF rfl ?_
        rw [wsucc (by omega)]
        have hm : metL g i = metL g (i + 1) := metL_ext (fun j => by rw [before_succ, hw]; simp)
        rw [hm]
        rw [hw, if_neg (by simp), Nat.zero_add] at htot
        exact ih n (by omega) htot
      · cases hm : (metL g i).getD i false
        · rw [if_pos ⟨hw, hm⟩] at htot
          have hdf := dfs_met g hlen' hC0 hw (show falses (metL g i) < g.cells.length + 1 by have := falses_le (metL g i); rw [metL_len] at this; omega)
          have hv := visit_ok g hg b1 b3 b4 bm t1 t3 t4 T_bool cap rest (g.cells.length + 1) (metL g i) ((i / g.C : Nat) : Int) ((i % g.C : Nat) : Int) (metL_len g i) (by have := falses_le (metL g i); rw [metL_len] at this; omega) (by have := Int.natCast_nonneg (i / g.C); omega) ?_ (by have := Int.natCast_nonneg (i % g.C); omega) (by have := Nat.mod_lt i hC0; omega)
          · rw [hdf] at hv
            have hq : IntKind.i64.wrap ((i : Int).tdiv g.cols) = ((i / g.C : Nat) : Int) := by
              rw [hc, hC]
              have e : (i : Int).tdiv (C : Int) = ((i / C : Nat) : Int) := by rw [Int.tdiv_eq_ediv_of_nonneg (by omega)]; rfl
              have h1 : (0 : Int) ≤ ((i / C : Nat) : Int) := Int.natCast_nonneg _
              have h2 : ((i / C : Nat) : Int) ≤ (i : Int) := Int.ofNat_le.2 (Nat.div_le_self i C)
              rw [e, w64 (by omega) (by omega)]
            have hrm : (i : Int).tmod g.cols = ((i % g.C : Nat) : Int) := by rw [hc, hC]; rfl
            repeat' (first|refine mid_ldP (m := 1001) (dv := .val (.slice (some ⟨bm, 0, none⟩) g.cells.length cap)) rfl rfl rfl ⟨rfl, rfl, rfl⟩ rfl ?_|refine mid_idxPn (i := i) (o' := i) rfl hk (by omega) rfl rfl rfl ?_|refine mid_ldP (m := 1003) (dv := .bool false) rfl rfl (boolCells_get hil hm) rfl rfl ?_|refine goPl (m := 1002) (dv := .val (visF b1 b3 b4)) rfl rfl rfl ⟨rfl, rfl, rfl⟩ rfl ?_|refine goPf rfl rfl rfl ?_|refine goPl (m := 1000) (dv := .int .i64 g.cols) rfl rfl rfl rfl rfl ?_|refine goPq rfl rfl (by omega) hq rfl ?_|refine goPr rfl rfl (by omega) hrm rfl ?_|refine goPcQ (args := [_, _]) [1000, 1001, 1002, 1003] (by kernel_rfl) rfl (visF_one b1 b3 b4) hv ⟨rfl, rfl, rfl, rfl, trivial⟩ (by decide) rfl rfl rfl rfl rfl (by decide) rfl ?_|refine goM rfl ?_|refine goR rfl ?_|refine goX rfl ?_|refine goY rfl ?_|refine goA rfl ?_|refine any_run ?_|refine any_nil (by kernel_rfl) rfl ?_)
            refine run_backF rfl ?_
            rw [wsucc (by omega), wsucc (by omega)]
            exact ih (n + 1) (by omega) (by omega)
          · have := Nat.div_lt_of_lt_mul (show i < g.C * g.R by rw [Nat.mul_comm, ← hlen']; exact hk)
            have h5 : ((i / g.C : Nat) : Int) < ((g.R : Nat) : Int) := Int.ofNat_lt.2 this
            omega
        · rw [if_neg (by rw [hm]; simp), Nat.zero_add] at htot
          repeat' (first|refine mid_ldP (m := 1001) (dv := .val (.slice (some ⟨bm, 0, none⟩) g.cells.length cap)) rfl rfl rfl ⟨rfl, rfl, rfl⟩ rfl ?_|refine mid_idxPn (i := i) (o' := i) rfl hk (by omega) rfl rfl rfl ?_|refine mid_ldP (m := 1003) (dv := .bool true) rfl rfl (boolCells_get hil hm) rfl rfl ?_|refine goM rfl ?_|refine goR rfl ?_|refine goX rfl ?_|refine goY rfl ?_)
          refine run_backF rfl ?_
          rw [wsucc (by omega)]
          have hb : g.before i i := (metL_get g i hk).1 hm
          have hme : metL g i = metL g (i + 1) := metL_ext (fun j => (before_met hb).symm)
          rw [hme]
          exact ih n (by omega) htot
    · have h0 : newFrom g i = 0 := by unfold newFrom; rw [List.drop_eq_nil_of_le (by simp; omega)]; rfl
      rw [h0, Nat.add_zero] at htot
      repeat' (first|refine goM rfl ?_|refine goR rfl ?_|refine goX rfl ?_|refine goY rfl ?_)
      refine .ret (hend _ ?_)
      rw [hpo, ← htot]; rfl
end Go.Rd

namespace Go.Rd
open Go.Proofs
set_option linter.unusedSimpArgs false
set_option linter.unusedVariables false
set_option maxRecDepth 10000
set_option maxHeartbeats 4000000
def swapN (s : Str) (i : Nat) : Str := (List.range s.length).map fun j => if j < i ∨ s.length - i ≤ j then s.getD (s.length - 1 - j) 0 else s.getD j 0
theorem swapN_len (s : Str) (i : Nat) : (swapN s i).length = s.length := by simp [swapN]
theorem swapN_get (s : Str) (i : Nat) {j : Nat} (h : j < s.length) : (swapN s i)[j]'(by rw [swapN_len]; exact h) = if j < i ∨ s.length - i ≤ j then s.getD (s.length - 1 - j) 0 else s.getD j 0 := by simp [swapN]
theorem getDU {s : Str} {i : Nat} (h : i < s.length) : s.getD i 0 = s[i] := by rw [List.getD_eq_getElem?_getD, List.getElem?_eq_getElem h]; rfl
theorem swapN_zero (s : Str) : swapN s 0 = s := by
  refine List.ext_getElem (swapN_len _ _) (fun j h1 h2 => ?_)
  rw [swapN_get s 0 h2, if_neg (by omega), getDU h2]
theorem swapN_step (s : Str) {i : Nat} (h : 2 * i + 1 < s.length) : ((swapN s i).set i (s.getD (s.length - 1 - i) 0)).set (s.length - 1 - i) (s.getD i 0) = swapN s (i + 1) := by
  refine List.ext_getElem (by simp [swapN_len]) (fun j h1 h2 => ?_)
  have hj : j < s.length := by rw [swapN_len] at h2; exact h2
  rw [swapN_get s (i + 1) hj, List.getElem_set, List.getElem_set]
  by_cases e1 : s.length - 1 - i = j
  · subst e1
    rw [if_pos rfl, if_pos (by omega), show s.length - 1 - (s.length - 1 - i) = i by omega]
  · rw [if_neg e1]
    by_cases e2 : i = j
    · subst e2; rw [if_pos rfl, if_pos (by omega)]
    · rw [if_neg e2, swapN_get s i hj]
      by_cases e3 : j < i ∨ s.length - i ≤ j
      · rw [if_pos e3, if_pos (by omega)]
      · rw [if_neg e3, if_neg (by omega)]
theorem swapN_end (s : Str) {i : Nat} (h : s.length ≤ 2 * i + 1) (hi : 2 * i ≤ s.length) : swapN s i = s.reverse := by
  refine List.ext_getElem (by simp [swapN_len]) (fun j h1 h2 => ?_)
  have hj : j < s.length := by rw [swapN_len] at h1; exact h1
  rw [swapN_get s i hj, List.getElem_reverse]
  by_cases e : j < i ∨ s.length - i ≤ j
  · rw [if_pos e, getDU (by omega)]
  · rw [if_neg e, getDU hj]
    congr 1; omega
theorem Reverse_ok (b cap xt e : Nat) (s : Str) (hs : s.length ≤ 1048576) :
    CallsP PP F_slices_Reverse_byte [.v (.val (.slice (some ⟨b, 0, none⟩) s.length cap))] [(b, .cells (byteCells s xt) e (s.length + xt, s.length + xt + 1))] [.cells (byteCells s.reverse xt) e (s.length + xt, s.length + xt + 1)] [] := by
  refine SP_slices_Reverse_byte [1000] rfl ⟨Nat.le_of_ble_eq_true rfl, by simp⟩ (by decide) rfl rfl (fun Q hQ => ?_)
  have hend : ∀ E : Env, get E 1000 = .hold b (.cells (byteCells s.reverse xt) e (s.length + xt, s.length + xt + 1)) → Q E := fun E h => hQ E ⟨rfl, h, trivial⟩
  clear hQ
  have key : ∀ i : Nat, 2 * i ≤ s.length → L_slices_Reverse_byte_0 PP Q [(0, .v (.val (.slice (some ⟨b, 0, none⟩) s.length cap))), (2, .v (.int .i64 i)), (3, .v (.int .i64 ((s.length : Int) - 1 - i))),
      (1000, .hold b (.cells (byteCells (swapN s i) xt) e (s.length + xt, s.length + xt + 1))), (1001, .undef), (1002, .undef), (1003, .undef), (1004, .undef), (1005, .undef), (1006, .undef), (1007, .undef), (1008, .undef), (1009, .undef)] := up s.length (fun i ih hi => ?_)
  · repeat' (first|refine mid_lenP rfl rfl ?_|refine goM rfl ?_|refine goR rfl ?_|refine goX rfl ?_|refine goY rfl ?_)
    refine run_loopF rfl ?_
    have := key 0 (by omega)
    rw [swapN_zero] at this
    rw [w64 (x := (s.length : Int) - 1) (by omega) (by omega)]
    rw [show ((s.length : Int) - 1 - ((0 : Nat) : Int)) = (s.length : Int) - 1 by omega] at this
    exact this
  · repeat' (first|refine goM rfl ?_|refine goR rfl ?_|refine goX rfl ?_|refine goY rfl ?_)
    refine run_cnd rfl (fun hk => ?_) (fun hk => ?_)
    · have hk := of_decide_eq_true hk
      have ih := ih (by omega) (by omega)
      rw [← swapN_step s (by omega)] at ih
      have hl := swapN_len s i
      have hi1 : i < (swapN s i).length := by omega
      have hj1 : s.length - 1 - i < (swapN s i).length := by omega
      have e1 : ((s.length : Int) - 1 - i) = ((s.length - 1 - i : Nat) : Int) := by omega
      rw [e1]
      have g1 : (swapN s i)[i] = s.getD i 0 := by rw [swapN_get s i (by omega), if_neg (by omega)]
      have g2 : (swapN s i)[s.length - 1 - i] = s.getD (s.length - 1 - i) 0 := by rw [swapN_get s i (by omega), if_neg (by omega)]
      repeat' (first|refine goPi rfl rfl (by omega) ((Nat.zero_add _).trans (Nat.mul_one _)) rfl ?_|refine goPl (d := 21) (m := 1000) (dv := .int .u8 ((s.getD (s.length - 1 - i) 0).toNat : Int)) rfl rfl ((byteCells_get hj1).trans (by rw [g2])) rfl rfl ?_|refine goPl (d := 25) (m := 1000) (dv := .int .u8 ((s.getD i 0).toNat : Int)) rfl rfl ((byteCells_get hi1).trans (by rw [g1])) rfl rfl ?_|refine goPs (m := 1000) (u := .int .u8 ((s.getD (s.length - 1 - i) 0).toNat : Int)) rfl rfl rfl rfl (by rw [byteCells_size]; omega) (by simp; omega) (byteCells_set hi1) ?_|refine goPs (m := 1000) (u := .int .u8 ((s.getD i 0).toNat : Int)) rfl rfl rfl rfl (by rw [byteCells_size, List.length_set]; omega) (by simp; omega) (byteCells_set (by rw [List.length_set]; exact hj1)) ?_|refine goM rfl ?_|refine goR rfl ?_|refine goX rfl ?_|refine goY rfl ?_|refine goA rfl ?_|refine any_run ?_|refine any_nil (by kernel_rfl) rfl ?_)
      refine run_backF rfl ?_
      rw [wsucc (by omega), w64 (x := ((s.length - 1 - i : Nat) : Int) - 1) (by omega) (by omega), show ((s.length - 1 - i : Nat) : Int) - 1 = (s.length : Int) - 1 - ((i + 1 : Nat) : Int) by omega]
      exact ih
    · have hk := of_decide_eq_false hk
      have := swapN_end s (i := i) (by omega) hi
      rw [this]
      repeat' refine goR rfl ?_
      exact .done (hend _ rfl)
theorem BackwardsI_ok (s : Str) (hs : s.length ≤ 1048576) : CallsOK PP F_impl_Backwards [.v (.str s)] [.v (.str (backwards s))] := by
  refine callsOK_of_H (SQ_impl_Backwards [] [] (fun _ => rfl) (fun _ => ⟨Nat.le_of_ble_eq_true rfl, by simp⟩) (by simp) (by simp) (fun u Q hQ => ?_))
  have hend : ∀ E : Env, resP E [.tmp 2] = some [.v (.str (backwards s))] → Q E := fun E h => hQ E ⟨(fun _ => .bool false, fun _ => []), h, by simp, trivial⟩
  clear hQ
  unfold backwards at hend
  repeat' (first|refine goM rfl ?_|refine goR rfl ?_|refine goX rfl ?_|refine goY rfl ?_)
  refine run_cnd rfl (fun hk => ?_) (fun hk => ?_)
  · have hk := of_decide_eq_true hk
    rw [if_neg (by omega)] at hend
    repeat' (first|refine goM rfl ?_|refine goR rfl ?_|refine goX rfl ?_|refine goY rfl ?_)
    exact .ret (hend _ rfl)
  · have hk := of_decide_eq_false hk
    rw [if_pos (by omega)] at hend
    repeat' (first|refine mid_s2b 1000 rfl rfl rfl (by decide) (fun b xt => ?_)|refine goM rfl ?_|refine goR rfl ?_|refine goX rfl ?_|refine goY rfl ?_)
    have hR := Reverse_ok b (s.length + xt) xt T_uint8 s hs
    repeat' (first|refine mid_callQ (args := [_]) [1000] hR ⟨rfl, trivial⟩ (by decide) rfl rfl rfl rfl rfl (by decide) rfl ?_|refine mid_b2sP (m := 1000) (s := s.reverse) rfl (by simp) rfl rfl ?_|refine goM rfl ?_|refine goR rfl ?_|refine goX rfl ?_|refine goY rfl ?_)
    exact .ret (hend _ rfl)
end Go.Rd

namespace Go.Rd
open Go.Proofs
set_option linter.unusedSimpArgs false
set_option linter.unusedVariables false
set_option maxRecDepth 10000
set_option maxHeartbeats 4000000
def addKeys (ks l : List Int) : List Int := l.foldl addKey ks
theorem addKey_has (ks : List Int) (k c : Int) : (addKey ks k).contains c = (ks.contains c || k == c) := by
  unfold addKey
  split
  · rename_i h
    cases hc : ks.contains c
    · have : (k == c) = false := by
        rw [beq_eq_false_iff_ne]; rintro rfl; rw [h] at hc; simp at hc
      rw [this]; rfl
    · rfl
  · simp only [List.contains_eq_mem, List.mem_append, List.mem_singleton]
    by_cases h : c = k
    · subst h; simp
    · simp [h, Ne.symm h]
theorem getDU' {s : Str} {i : Nat} (h : i < s.length) : s.getD i 0 = s[i] := by rw [List.getD_eq_getElem?_getD, List.getElem?_eq_getElem h]; rfl
theorem addKeys_has : ∀ (l ks : List Int) (c : Int), (addKeys ks l).contains c = (ks.contains c || l.contains c)
  | [], ks, c => by simp [addKeys]
  | k :: l, ks, c => by
    have := addKeys_has l (addKey ks k) c
    simp only [addKeys, List.foldl_cons] at this ⊢
    rw [this, addKey_has, List.contains_cons, Bool.or_assoc]
    congr 2
    exact Bool.beq_comm
theorem addKeys_take (ks l : List Int) {i : Nat} (h : i < l.length) : addKey (addKeys ks (l.take i)) l[i] = addKeys ks (l.take (i + 1)) := by
  unfold addKeys; rw [← List.take_append_getElem h, List.foldl_append]; rfl
def keysTo (ls : List (List Int)) (k : Nat) : List Int := (ls.take k).foldl addKeys []
theorem keysTo_succ (ls : List (List Int)) {k : Nat} (h : k < ls.length) : addKeys (keysTo ls k) ls[k] = keysTo ls (k + 1) := by
  unfold keysTo; rw [← List.take_append_getElem h, List.foldl_append]; rfl
theorem keys_at (c : Int) : ∀ (ls : List (List Int)) (ks : List Int) (i : Nat), (ls.foldl addKeys ks).contains c = (ks.contains c || !(slotsAtGo c ls i == []))
  | [], ks, i => by simp [slotsAtGo]
  | l :: ls, ks, i => by
    simp only [List.foldl_cons]
    rw [keys_at c ls (addKeys ks l) (i + 1), addKeys_has, slotsAtGo, Bool.or_assoc]
    congr 1
    cases l.contains c <;> simp
theorem aloneI_ok (g : Grd) (f : Str) (hg : isGrid g = true) (hf : f.length = g.cells.length) : CallsOK PP F_impl_alone [.agg (rGrd g), .v (.str f)] [.v (.bool (aloneIn g f))] := by
  obtain ⟨R, C, hr, hc, hR, hC, r2, r6, c2, c6, hlen, h36⟩ := grid_nat hg
  have hll := layout_len g
  have hsl := slots_len g
  refine callsOK_of_H (SQ_impl_alone [] [] (fun _ => rfl) (fun _ => ⟨Nat.le_of_ble_eq_true rfl, by simp⟩) (by simp) (by simp) (fun u Q hQ => ?_))
  have hend : ∀ E : Env, resP E [.tmp 4] = some [.v (.bool (aloneIn g f))] → Q E := fun E h => hQ E ⟨(fun _ => .bool false, fun _ => []), h, by simp, trivial⟩
  clear hQ
  have hal : aloneIn g f = ((List.range g.cells.length).drop 0).any (fun c => g.white c && (slotsAt g c == []) && !isL (f.getD c 0)) := rfl
  have hlay := layout_ok g (by omega)
  have look : ∀ (b : Nat) (i : Nat), ((List.range g.cells.length).drop i).any (fun c => g.white c && (slotsAt g c == []) && !isL (f.getD c 0)) = aloneIn g f → L_impl_alone_0 PP Q [(1, .v (.str f)), (2, .box (rGrd g)), (5, .v (.val (.map (some b)))), (31, .v (.int .i64 g.cells.length)), (32, .v (.int .i64 i)),
      (1000, .hold b (.map (entA (keysTo (layout g) (layout g).length)) (keysTo (layout g) (layout g).length).length)), (1001, .undef), (1002, .undef), (1003, .undef), (1004, .undef), (1005, .undef), (1006, .undef), (1007, .undef), (1008, .undef), (1009, .undef)] := fun b => up g.cells.length (fun i ih hi => ?_)
  · have put : ∀ (b k : Nat), k ≤ (layout g).length → L_impl_alone_1 PP Q [(1, .v (.str f)), (2, .box (rGrd g)), (5, .v (.val (.map (some b)))), (13, .v (.sl 1 ((layout g).map rIs))), (14, .v (.int .i64 (layout g).length)), (15, .v (.int .i64 k)),
        (1000, .hold b (.map (entA (keysTo (layout g) k)) (keysTo (layout g) k).length)), (1001, .undef), (1002, .undef), (1003, .undef), (1004, .undef), (1005, .undef), (1006, .undef), (1007, .undef), (1008, .undef), (1009, .undef)] := fun b => up (layout g).length (fun k ih hk0 => ?_)
    · simp only [rGrd] at put hlay ⊢
      repeat' (first|refine mid_mkm 1000 rfl rfl (by decide) (fun b => ?_)|refine goM rfl ?_|refine goR rfl ?_|refine goX rfl ?_|refine goY rfl ?_|refine goC (hlay) rfl rfl rfl rfl ?_)
      simp only [List.length_map]
      refine run_loopF rfl ?_
      exact put b 0 (by omega)
    · simp only [rGrd] at look ih ⊢
      repeat' (first|refine goM rfl ?_|refine goR rfl ?_|refine goX rfl ?_|refine goY rfl ?_)
      refine run_cnd_lt rfl (fun hk => ?_) (fun hk => ?_)
      · have ih := ih hk (by omega)
        rw [← keysTo_succ _ hk] at ih
        have hl6 := layout_mem (List.getElem_mem hk)
        repeat' (first|refine mid_idxm rfl rfl hk rfl ?_|refine goM rfl ?_|refine goR rfl ?_|refine goX rfl ?_|refine goY rfl ?_)
        simp only [List.length_map]
        have inn : ∀ i : Nat, i ≤ (layout g)[k].length → L_impl_alone_2 PP Q [(1, .v (.str f)), (2, .box [dI g.rows, dI g.cols, dS g.cells]), (5, .v (.val (.map (some b)))), (7, .v (dInts (layout g)[k])), (13, .v (.sl 1 ((layout g).map rIs))), (14, .v (.int .i64 (layout g).length)), (15, .v (.int .i64 k)), (19, .v (dInts (layout g)[k])), (20, .v (.int .i64 (layout g)[k].length)), (21, .v (.int .i64 i)),
            (1000, .hold b (.map (entA (addKeys (keysTo (layout g) k) ((layout g)[k].take i))) (addKeys (keysTo (layout g) k) ((layout g)[k].take i)).length)), (1001, .undef), (1002, .undef), (1003, .undef), (1004, .undef), (1005, .undef), (1006, .undef), (1007, .undef), (1008, .undef), (1009, .undef)] := up (layout g)[k].length (fun i ihi hi0 => ?_)
        · refine run_loopF rfl ?_
          exact inn 0 (by omega)
        · repeat' (first|refine goM rfl ?_|refine goR rfl ?_|refine goX rfl ?_|refine goY rfl ?_)
          refine run_cnd_lt rfl (fun hi => ?_) (fun hi => ?_)
          · have ihi := ihi hi (by omega)
            rw [← addKeys_take _ _ hi] at ihi
            repeat' (first|refine mid_idxm rfl rfl hi rfl ?_|refine mid_mpu (m := 1000) rfl rfl rfl rfl ?_|refine goM rfl ?_|refine goR rfl ?_|refine goX rfl ?_|refine goY rfl ?_)
            refine run_backF rfl ?_
            rw [wsucc (by omega)]
            exact ihi
          · rw [List.take_of_length_le (by omega)]
            repeat' (first|refine goM rfl ?_|refine goR rfl ?_|refine goX rfl ?_|refine goY rfl ?_)
            refine run_backF rfl ?_
            rw [wsucc (by omega)]
            exact ih
      · rw [show k = (layout g).length by omega]
        repeat' (first|refine goM rfl ?_|refine goR rfl ?_|refine goX rfl ?_|refine goY rfl ?_)
        refine run_loopF rfl ?_
        exact look b 0 rfl
  · simp only [rGrd] at ih ⊢
    repeat' (first|refine goM rfl ?_|refine goR rfl ?_|refine goX rfl ?_|refine goY rfl ?_)
    refine run_cnd_lt rfl (fun hk => ?_) (fun hk => ?_)
    · have ih := ih hk
      have hkr : i < (List.range g.cells.length).length := by simpa using hk
      rw [any_drop _ _ hkr, List.getElem_range] at hi
      have hkf : i < f.length := by omega
      have hkey : (keysTo (layout g) (layout g).length).contains (i : Int) = !(slotsAt g i == []) := by
        unfold keysTo slotsAt
        rw [List.take_of_length_le (by omega), keys_at (i : Int) (layout g) [] 0]; simp
      repeat' (first|refine mid_sidxs rfl rfl hk rfl ?_|refine goM rfl ?_|refine goR rfl ?_|refine goX rfl ?_|refine goY rfl ?_)
      rw [show ((g.cells[i].toNat : Int) == 46) = g.white i from (white_at hk).symm]
      cases hw : g.white i
      · rw [hw] at hi
        repeat' (first|refine goM rfl ?_|refine goR rfl ?_|refine goX rfl ?_|refine goY rfl ?_)
        refine run_backF rfl ?_
        rw [wsucc (by omega)]
        exact ih (by simpa using hi)
      · rw [hw] at hi
        repeat' (first|refine mid_mpl (m := 1000) rfl rfl rfl rfl ?_|refine goM rfl ?_)
        rw [hkey]
        cases hs : (slotsAt g (i : Int) == [])
        · rw [hs] at hi
          repeat' (first|refine goM rfl ?_|refine goR rfl ?_|refine goX rfl ?_|refine goY rfl ?_)
          refine run_backF rfl ?_
          rw [wsucc (by omega)]
          exact ih (by simpa using hi)
        · rw [hs] at hi
          have hl : CallsOK PP F_impl_isLetter [.v (.int .u8 (f[i].toNat : Int))] [.v (.bool (isL f[i]))] := isLetter_ok _
          repeat' (first|refine mid_sidxs rfl rfl hkf rfl ?_|refine goM rfl ?_|refine goY rfl ?_|refine goC (hl) rfl rfl rfl rfl ?_)
          rw [getDU' hkf] at hi
          cases hx : isL f[i]
          · rw [hx] at hi
            repeat' (first|refine goM rfl ?_|refine goR rfl ?_|refine goX rfl ?_|refine goY rfl ?_)
            refine .ret (hend _ ?_)
            rw [← hi]; rfl
          · rw [hx] at hi
            repeat' (first|refine goM rfl ?_|refine goR rfl ?_|refine goX rfl ?_|refine goY rfl ?_)
            refine run_backF rfl ?_
            rw [wsucc (by omega)]
            exact ih (by simpa using hi)
    · rw [List.drop_eq_nil_of_le (by simp; omega)] at hi
      repeat' (first|refine goM rfl ?_|refine goR rfl ?_|refine goX rfl ?_|refine goY rfl ?_)
      refine .ret (hend _ ?_)
      rw [← hi]; rfl
end Go.Rd

namespace Go.Rd
open Go.Proofs
theorem Backwards_ok (s : Str) (hs : s.length ≤ 1048576) : CallsOK PP F_impl_Backwards [.v (.str s)] [.v (.str (backwards s))] := BackwardsI_ok s hs
theorem PartsOf_ok (g : Grd) (hg : isGrid g = true) : CallsOK PP F_impl_PartsOf [.agg (rGrd g)] [.v (.int .i64 (partsOf g))] := PartsOfI_ok g hg
theorem PartsOf_ok' (g : Grd) (hg : isGrid g = true) : CallsOK PP F_spec_PartsOf [.agg (rGrd g)] [.v (.int .i64 (partsOf g))] := PartsOfS_ok g hg
theorem alone_ok (g : Grd) (f : Str) (hg : isGrid g = true) (hf : f.length = g.cells.length) : CallsOK PP F_impl_alone [.agg (rGrd g), .v (.str f)] [.v (.bool (aloneIn g f))] := aloneI_ok g f hg hf
end Go.Rd

namespace Go.Rd
open Go.Proofs
set_option linter.unusedSimpArgs false
set_option linter.unusedVariables false
set_option maxRecDepth 10000
set_option maxHeartbeats 4000000
theorem TurnGrid_ok (g : Grd) (hg : isGrid g = true) : CallsOK PP F_impl_TurnGrid [.agg (rGrd g)] [.agg (rGrd ⟨g.rows, g.cols, g.cells.reverse⟩)] := by
  obtain ⟨R, C, hr, hc, hR, hC, r2, r6, c2, c6, hlen, h36⟩ := grid_nat hg
  refine S_impl_TurnGrid rfl (Nat.le_of_ble_eq_true rfl) ?_
  have hb : backwards g.cells = g.cells.reverse := by unfold backwards; rw [if_pos (by omega)]
  have hgr := IsGrid_ok g (by omega)
  simp only [rGrd] at hgr ⊢
  repeat' (first|refine goM rfl ?_|refine goR rfl ?_|refine goX rfl ?_|refine goY rfl ?_|refine goC (hgr) rfl rfl rfl rfl ?_)
  rw [hg]
  repeat' (first|refine goM rfl ?_|refine goR rfl ?_|refine goX rfl ?_|refine goY rfl ?_|refine goC (Backwards_ok g.cells (by omega)) rfl rfl rfl rfl ?_)
  rw [hb]
  (first|refine run_ret rfl ?_|refine run_done rfl ?_)
  rfl
theorem IsSymmetric_ok (g : Grd) (hg0 : g.cells.length ≤ 1048576) : CallsOK PP F_impl_IsSymmetric [.agg (rGrd g)] [.v (.bool (isSym g))] := by
  refine S_impl_IsSymmetric rfl (Nat.le_of_ble_eq_true rfl) ?_
  have hgr := IsGrid_ok g hg0
  simp only [rGrd] at hgr ⊢
  repeat' (first|refine goM rfl ?_|refine goR rfl ?_|refine goX rfl ?_|refine goY rfl ?_|refine goC (hgr) rfl rfl rfl rfl ?_)
  cases hg : isGrid g
  · repeat' (first|refine goM rfl ?_|refine goY rfl ?_)
    (first|refine run_ret rfl ?_|refine run_done rfl ?_)
    simp [isSym, hg]
  · have ht := TurnGrid_ok g hg
    simp only [rGrd] at ht
    repeat' (first|refine goM rfl ?_|refine goY rfl ?_|refine goC (ht) rfl rfl rfl rfl ?_)
    (first|refine run_ret rfl ?_|refine run_done rfl ?_)
    simp only [isSym, hg, Bool.true_and]
    congr 3
    show (g.rows == g.rows && (g.cols == g.cols && (_ && true))) = _
    simp only [beq_self_eq_true, Bool.true_and, Bool.and_true]
    try first | rfl | exact Bool.beq_comm ..
theorem IsConnected_ok (g : Grd) (hg : isGrid g = true) : CallsOK PP F_impl_IsConnected [.agg (rGrd g)] [.v (.bool (partsOf g == 1))] := by
  refine S_impl_IsConnected rfl (Nat.le_of_ble_eq_true rfl) ?_
  repeat' (first|refine goM rfl ?_|refine goR rfl ?_|refine goX rfl ?_|refine goY rfl ?_|refine goC (PartsOf_ok g hg) rfl rfl rfl rfl ?_)
  (first|refine run_ret rfl ?_|refine run_done rfl ?_)
  congr 3
  rw [Bool.eq_iff_iff, beq_iff_eq, beq_iff_eq]; omega
theorem TurnGrid_ok' (g : Grd) (hg : isGrid g = true) : CallsOK PP F_spec_TurnGrid [.agg (rGrd g)] [.agg (rGrd ⟨g.rows, g.cols, g.cells.reverse⟩)] := by
  obtain ⟨R, C, hr, hc, hR, hC, r2, r6, c2, c6, hlen, h36⟩ := grid_nat hg
  refine S_spec_TurnGrid rfl (Nat.le_of_ble_eq_true rfl) ?_
  have hb : backwards g.cells = g.cells.reverse := by unfold backwards; rw [if_pos (by omega)]
  have hgr := IsGrid_ok' g (by omega)
  simp only [rGrd] at hgr ⊢
  repeat' (first|refine goM rfl ?_|refine goR rfl ?_|refine goX rfl ?_|refine goY rfl ?_|refine goC (hgr) rfl rfl rfl rfl ?_)
  rw [hg]
  repeat' (first|refine goM rfl ?_|refine goR rfl ?_|refine goX rfl ?_|refine goY rfl ?_|refine goC (Backwards_ok' g.cells) rfl rfl rfl rfl ?_)
  rw [hb]
  (first|refine run_ret rfl ?_|refine run_done rfl ?_)
  rfl
theorem IsSymmetric_ok' (g : Grd) (hg0 : g.cells.length ≤ 1048576) : CallsOK PP F_spec_IsSymmetric [.agg (rGrd g)] [.v (.bool (isSym g))] := by
  refine S_spec_IsSymmetric rfl (Nat.le_of_ble_eq_true rfl) ?_
  have hgr := IsGrid_ok' g hg0
  simp only [rGrd] at hgr ⊢
  repeat' (first|refine goM rfl ?_|refine goR rfl ?_|refine goX rfl ?_|refine goY rfl ?_|refine goC (hgr) rfl rfl rfl rfl ?_)
  cases hg : isGrid g
  · repeat' (first|refine goM rfl ?_|refine goY rfl ?_)
    (first|refine run_ret rfl ?_|refine run_done rfl ?_)
    simp [isSym, hg]
  · have ht := TurnGrid_ok' g hg
    simp only [rGrd] at ht
    repeat' (first|refine goM rfl ?_|refine goY rfl ?_|refine goC (ht) rfl rfl rfl rfl ?_)
    (first|refine run_ret rfl ?_|refine run_done rfl ?_)
    simp only [isSym, hg, Bool.true_and]
    congr 3
    show (g.rows == g.rows && (g.cols == g.cols && (_ && true))) = _
    simp only [beq_self_eq_true, Bool.true_and, Bool.and_true]
    try first | rfl | exact Bool.beq_comm ..
theorem IsConnected_ok' (g : Grd) (hg : isGrid g = true) : CallsOK PP F_spec_IsConnected [.agg (rGrd g)] [.v (.bool (partsOf g == 1))] := by
  refine S_spec_IsConnected rfl (Nat.le_of_ble_eq_true rfl) ?_
  repeat' (first|refine goM rfl ?_|refine goR rfl ?_|refine goX rfl ?_|refine goY rfl ?_|refine goC (PartsOf_ok' g hg) rfl rfl rfl rfl ?_)
  (first|refine run_ret rfl ?_|refine run_done rfl ?_)
  congr 3
  rw [Bool.eq_iff_iff, beq_iff_eq, beq_iff_eq]; omega
theorem FormOf_ok' (g : Grd) (hg0 : g.cells.length ≤ 1048576) : CallsOK PP F_spec_FormOf [.agg (rGrd g)] [.v (.int .i64 (formOf g))] := by
  refine S_spec_FormOf rfl (Nat.le_of_ble_eq_true rfl) ?_
  unfold formOf
  have h1 := IsGrid_ok' g hg0
  have h2 := IsSymmetric_ok' g hg0
  have h4 := l10Short_ok g hg0
  simp only [rGrd] at h1 h2 h4 ⊢
  repeat' (first|refine goM rfl ?_|refine goR rfl ?_|refine goX rfl ?_|refine goY rfl ?_|refine goC (h1) rfl rfl rfl rfl ?_)
  cases hg : isGrid g
  · repeat' (first|refine goM rfl ?_|refine goR rfl ?_|refine goX rfl ?_|refine goY rfl ?_)
    (first|refine run_ret rfl ?_|refine run_done rfl ?_)
    rfl
  · have h3 := IsConnected_ok' g hg
    have h5 := l10Alone_ok g hg
    simp only [rGrd] at h3 h5
    repeat' (first|refine goM rfl ?_|refine goR rfl ?_|refine goX rfl ?_|refine goY rfl ?_|refine goC (h2) rfl rfl rfl rfl ?_)
    cases hs : isSym g
    · repeat' (first|refine goM rfl ?_|refine goR rfl ?_|refine goX rfl ?_|refine goY rfl ?_)
      (first|refine run_ret rfl ?_|refine run_done rfl ?_)
      rfl
    · repeat' (first|refine goM rfl ?_|refine goR rfl ?_|refine goX rfl ?_|refine goY rfl ?_|refine goC (h3) rfl rfl rfl rfl ?_)
      cases hp : (partsOf g == 1)
      · repeat' (first|refine goM rfl ?_|refine goR rfl ?_|refine goX rfl ?_|refine goY rfl ?_)
        (first|refine run_ret rfl ?_|refine run_done rfl ?_)
        rfl
      · repeat' (first|refine goM rfl ?_|refine goR rfl ?_|refine goX rfl ?_|refine goY rfl ?_|refine goC (h4) rfl rfl rfl rfl ?_)
        cases hh : (slotsOf g).any (fun s => decide (s.len < 3))
        · repeat' (first|refine goM rfl ?_|refine goR rfl ?_|refine goX rfl ?_|refine goY rfl ?_|refine goC (h5) rfl rfl rfl rfl ?_)
          cases ha : (!crowded g || aloneIn g g.cells)
          · repeat' (first|refine goM rfl ?_|refine goR rfl ?_|refine goX rfl ?_|refine goY rfl ?_)
            (first|refine run_ret rfl ?_|refine run_done rfl ?_)
            rfl
          · repeat' (first|refine goM rfl ?_|refine goR rfl ?_|refine goX rfl ?_|refine goY rfl ?_)
            (first|refine run_ret rfl ?_|refine run_done rfl ?_)
            rfl
        · repeat' (first|refine goM rfl ?_|refine goR rfl ?_|refine goX rfl ?_|refine goY rfl ?_)
          (first|refine run_ret rfl ?_|refine run_done rfl ?_)
          rfl
theorem FormOf_ok (g : Grd) (hg0 : g.cells.length ≤ 1048576) : CallsOK PP F_impl_FormOf [.agg (rGrd g)] [.v (.int .i64 (formOf g))] := by
  refine S_impl_FormOf rfl (Nat.le_of_ble_eq_true rfl) ?_
  unfold formOf
  have h1 := IsGrid_ok g hg0
  have h2 := IsSymmetric_ok g hg0
  simp only [rGrd] at h1 h2 ⊢
  repeat' (first|refine goM rfl ?_|refine goR rfl ?_|refine goX rfl ?_|refine goY rfl ?_|refine goC (h1) rfl rfl rfl rfl ?_)
  cases hg : isGrid g
  · repeat' (first|refine goM rfl ?_|refine goR rfl ?_|refine goX rfl ?_|refine goY rfl ?_)
    (first|refine run_ret rfl ?_|refine run_done rfl ?_)
    rfl
  · have h3 := IsConnected_ok g hg
    simp only [rGrd] at h3
    repeat' (first|refine goM rfl ?_|refine goR rfl ?_|refine goX rfl ?_|refine goY rfl ?_|refine goC (h2) rfl rfl rfl rfl ?_)
    cases hs : isSym g
    · repeat' (first|refine goM rfl ?_|refine goR rfl ?_|refine goX rfl ?_|refine goY rfl ?_)
      (first|refine run_ret rfl ?_|refine run_done rfl ?_)
      rfl
    · repeat' (first|refine goM rfl ?_|refine goR rfl ?_|refine goX rfl ?_|refine goY rfl ?_|refine goC (h3) rfl rfl rfl rfl ?_)
      cases hp : (partsOf g == 1)
      · repeat' (first|refine goM rfl ?_|refine goR rfl ?_|refine goX rfl ?_|refine goY rfl ?_)
        (first|refine run_ret rfl ?_|refine run_done rfl ?_)
        rfl
      · have h6 := SlotsOf_ok g hg0
        have h7 := alone_ok g g.cells hg rfl
        have hsl := slots_len g
        simp only [rGrd] at h6 h7
        repeat' (first|refine goM rfl ?_|refine goR rfl ?_|refine goX rfl ?_|refine goY rfl ?_|refine goC (h6) rfl rfl rfl rfl ?_)
        simp only [List.length_map]
        simp only [crowded]
        have key2 : ∀ k : Nat, L_impl_FormOf_0 PP [(1, .box [dI g.rows, dI g.cols, dS g.cells]), (3, .v (dSlts (slotsOf g))), (32, .v (dSlts (slotsOf g))), (33, .v (.int .i64 (slotsOf g).length)), (34, .v (.int .i64 k))]
            [.v (.int .i64 (if (!allI (fun i (s : Slt) => !decide (2 * (uncheckedIn g i : Int) > s.len)) ((slotsOf g).drop k) k || aloneIn g g.cells) = true then 5 else 0))] := up (slotsOf g).length (fun k ih => ?_)
        · have key : ∀ k : Nat, L_impl_FormOf_1 PP [(1, .box [dI g.rows, dI g.cols, dS g.cells]), (3, .v (dSlts (slotsOf g))), (22, .v (dSlts (slotsOf g))), (23, .v (.int .i64 (slotsOf g).length)), (24, .v (.int .i64 k))]
              [.v (.int .i64 (if ((slotsOf g).drop k).any (fun s => decide (s.len < 3)) = true then 4 else if (!allI (fun i (s : Slt) => !decide (2 * (uncheckedIn g i : Int) > s.len)) (slotsOf g) 0 || aloneIn g g.cells) = true then 5 else 0))] := up (slotsOf g).length (fun k ih => ?_)
          · refine run_loopF rfl ?_
            exact key 0
          · repeat' (first|refine goM rfl ?_|refine goR rfl ?_|refine goX rfl ?_|refine goY rfl ?_)
            refine run_cnd_lt rfl (fun hk => ?_) (fun hk => ?_)
            · rw [any_drop _ _ hk]
              repeat' (first|refine mid_idxm rfl rfl hk rfl ?_|refine goM rfl ?_|refine goR rfl ?_|refine goX rfl ?_|refine goY rfl ?_)
              (first | refine mid_gdT rfl rfl (fun hb => ?_) (fun hb => ?_) | refine mid_gdF rfl rfl (fun hb => ?_) (fun hb => ?_) | refine run_cnd rfl (fun hb => ?_) (fun hb => ?_)) <;> try rw [hb]
              · repeat' (first|refine goM rfl ?_|refine goR rfl ?_|refine goX rfl ?_|refine goY rfl ?_)
                (first|refine run_ret rfl ?_|refine run_done rfl ?_)
                rfl
              · repeat' (first|refine goM rfl ?_|refine goR rfl ?_|refine goX rfl ?_|refine goY rfl ?_)
                refine run_backF rfl ?_
                rw [wsucc (by omega), Bool.false_or]
                exact ih hk
            · repeat' (first|refine goM rfl ?_|refine goR rfl ?_|refine goX rfl ?_|refine goY rfl ?_)
              simp only [List.length_map]
              refine run_loopF rfl ?_
              rw [any_drop_nil _ _ hk]
              exact key2 0
        · repeat' (first|refine goM rfl ?_|refine goR rfl ?_|refine goX rfl ?_|refine goY rfl ?_)
          refine run_cnd_lt rfl (fun hk => ?_) (fun hk => ?_)
          · have hu := unchecked_le g k
            have h8 := UncheckedIn_ok g hg0 k hk
            simp only [rGrd] at h8
            rw [allI_drop _ _ hk]
            repeat' (first|refine mid_idxm rfl rfl hk rfl ?_|refine goM rfl ?_|refine goR rfl ?_|refine goX rfl ?_|refine goY rfl ?_|refine goC (h8) rfl rfl rfl rfl ?_)
            rw [w64 (by omega) (by omega)]
            (first | refine mid_gdT rfl rfl (fun hb => ?_) (fun hb => ?_) | refine mid_gdF rfl rfl (fun hb => ?_) (fun hb => ?_) | refine run_cnd rfl (fun hb => ?_) (fun hb => ?_)) <;> try rw [hb]
            · repeat' (first|refine goM rfl ?_|refine goR rfl ?_|refine goX rfl ?_|refine goY rfl ?_)
              (first|refine run_ret rfl ?_|refine run_done rfl ?_)
              rfl
            · repeat' (first|refine goM rfl ?_|refine goR rfl ?_|refine goX rfl ?_|refine goY rfl ?_)
              refine run_backF rfl ?_
              rw [wsucc (by omega), Bool.not_false, Bool.true_and]
              exact ih hk
          · rw [allI_nil _ _ hk]
            repeat' (first|refine goM rfl ?_|refine goR rfl ?_|refine goX rfl ?_|refine goY rfl ?_|refine goC (h7) rfl rfl rfl rfl ?_)
            cases ha : aloneIn g g.cells
            · repeat' (first|refine goM rfl ?_|refine goR rfl ?_|refine goX rfl ?_|refine goY rfl ?_)
              (first|refine run_ret rfl ?_|refine run_done rfl ?_)
              rfl
            · repeat' (first|refine goM rfl ?_|refine goR rfl ?_|refine goX rfl ?_|refine goY rfl ?_)
              (first|refine run_ret rfl ?_|refine run_done rfl ?_)
              rfl
end Go.Rd

namespace Go.Rd
open Go.Proofs
set_option linter.unusedSimpArgs false
set_option linter.unusedVariables false
set_option maxRecDepth 10000
set_option maxHeartbeats 4000000
theorem callable_of {P : Program} {f : FuncId} {fn : Func} (hf : P.funcs[f]? = some fn) (hn : (fn.name != "runtime.NumGoroutine" && fn.body.isSome) = true) : callable P f = true := by
  unfold callable; rw [hf]; exact hn
theorem IndexClue_ok (l : List Clu) (F : FuncId) (p : Clu → Bool) (hc : callable PP F = true) (hl : l.length ≤ 1048576) (hp : ∀ c ∈ l, CallsOK PP F [.agg (rClu c)] [.v (.bool (p c))]) : CallsOK PP F_slices_IndexFunc_impl_Clue [.v (dClus l), .clo F []] [.v (.int .i64 (findGo p l 0))] := by
  refine S_slices_IndexFunc_impl_Clue rfl (Nat.le_of_ble_eq_true rfl) ?_
  have key : ∀ k : Nat, L_slices_IndexFunc_impl_Clue_0 PP [(0, .v (dClus l)), (1, .clo F []), (7, .v (.int .i64 l.length)), (8, .v (.int .i64 k))] [.v (.int .i64 (findGo p (l.drop k) k))] := up l.length (fun k ih => ?_)
  · repeat' (first|refine goM rfl ?_|refine goR rfl ?_|refine goX rfl ?_|refine goY rfl ?_)
    simp only [List.length_map]
    refine run_loopF rfl ?_
    exact key 0
  · repeat' (first|refine goM rfl ?_|refine goR rfl ?_|refine goX rfl ?_|refine goY rfl ?_)
    refine run_cnd_lt rfl (fun hk => ?_) (fun hk => ?_)
    · rw [findGo_drop _ l hk]
      have hq := hp _ (List.getElem_mem hk)
      simp only [rClu] at hq
      repeat' (first|refine mid_idxm rfl rfl hk rfl ?_|refine mid_callv (args := [.agg [dI l[k].sense, dStps l[k].play]]) (rs := [.v (.bool (p l[k]))]) rfl hc hq rfl rfl rfl rfl ?_|refine goM rfl ?_|refine goR rfl ?_|refine goX rfl ?_|refine goY rfl ?_)
      (first | refine mid_gdT rfl rfl (fun hb => ?_) (fun hb => ?_) | refine mid_gdF rfl rfl (fun hb => ?_) (fun hb => ?_) | refine run_cnd rfl (fun hb => ?_) (fun hb => ?_)) <;> try rw [hb]
      · repeat' (first|refine goM rfl ?_|refine goR rfl ?_|refine goX rfl ?_|refine goY rfl ?_)
        (first|refine run_ret rfl ?_|refine run_done rfl ?_)
        rfl
      · repeat' (first|refine goM rfl ?_|refine goR rfl ?_|refine goX rfl ?_|refine goY rfl ?_)
        refine run_backF rfl ?_
        rw [wsucc (by omega)]
        exact ih hk
    · repeat' (first|refine goM rfl ?_|refine goR rfl ?_|refine goX rfl ?_|refine goY rfl ?_)
      (first|refine run_ret rfl ?_|refine run_done rfl ?_)
      rw [findGo_nil _ l hk]
theorem ContainsClue_ok (l : List Clu) (F : FuncId) (p : Clu → Bool) (hc : callable PP F = true) (hl : l.length ≤ 1048576) (hp : ∀ c ∈ l, CallsOK PP F [.agg (rClu c)] [.v (.bool (p c))]) : CallsOK PP F_slices_ContainsFunc_impl_Clue [.v (dClus l), .clo F []] [.v (.bool (l.any p))] := by
  refine S_slices_ContainsFunc_impl_Clue rfl (Nat.le_of_ble_eq_true rfl) ?_
  repeat' (first|refine goM rfl ?_|refine goR rfl ?_|refine goX rfl ?_|refine goY rfl ?_|refine goC (IndexClue_ok l F p hc hl hp) rfl rfl rfl rfl ?_)
  (first|refine run_ret rfl ?_|refine run_done rfl ?_)
  rw [findGo_any]
theorem any_not_all {α : Type} (p : α → Bool) (l : List α) : (!l.any fun c => !p c) = l.all p := by
  induction l with
  | nil => rfl
  | cons x xs ih => rw [List.any_cons, List.all_cons, ← ih]; cases p x <;> simp
end Go.Rd

namespace Go.Rd
open Go.Proofs
set_option linter.unusedSimpArgs false
set_option linter.unusedVariables false
set_option maxRecDepth 10000
set_option maxHeartbeats 4000000
def zeroClue (c : Clu) : Bool := c.sense == 0 && c.play.length == 0
noncomputable def isDraft (x : Dra) : Bool := (formOf x.grid == 0) && isFill x.grid x.fill && (x.clues.length == (slotsOf x.grid).length) && inR x.ver 1 9999 && x.clues.all (fun c => zeroClue c || isClue c)
structure smDra (x : Dra) : Prop where
  cells : x.grid.cells.length ≤ 1048576
  clues : x.clues.length ≤ 1048576
  plays : ∀ c ∈ x.clues, c.play.length ≤ 1048576
theorem l27Zero_ok (c : Clu) : CallsOK PP F_spec_l27Zero [.agg (rClu c)] [.v (.bool (zeroClue c))] := by
  refine S_spec_l27Zero rfl (Nat.le_of_ble_eq_true rfl) ?_
  have e1 : ((c.play.length : Int) == 0) = (c.play.length == 0) := by rw [Bool.eq_iff_iff, beq_iff_eq, beq_iff_eq]; omega
  simp only [rClu]
  repeat' (first|refine goM rfl ?_|refine goR rfl ?_|refine goX rfl ?_|refine goY rfl ?_)
  cases ha : (c.sense == 0)
  · repeat' (first|refine goM rfl ?_|refine goY rfl ?_)
    (first|refine run_ret rfl ?_|refine run_done rfl ?_)
    simp [zeroClue, ha]
  · repeat' (first|refine goM rfl ?_|refine goY rfl ?_)
    (first|refine run_ret rfl ?_|refine run_done rfl ?_)
    simp [zeroClue, ha, e1]
theorem EqualStep_nil (l : List Stp) : CallsOK PP F_slices_Equal_impl_Step [.v (dStps l), .v (.sl 4 [])] [.v (.bool (l.length == 0))] := by
  refine S_slices_Equal_impl_Step rfl (Nat.le_of_ble_eq_true rfl) ?_
  cases l with
  | nil =>
    repeat' (first|refine goM rfl ?_|refine goR rfl ?_|refine goX rfl ?_|refine goY rfl ?_)
    refine run_loopF rfl ?_
    repeat' (first|refine goM rfl ?_|refine goR rfl ?_|refine goX rfl ?_|refine goY rfl ?_)
    (first|refine run_ret rfl ?_|refine run_done rfl ?_)
    rfl
  | cons x xs =>
    repeat' (first|refine goM rfl ?_|refine goR rfl ?_|refine goX rfl ?_|refine goY rfl ?_)
    (first|refine run_ret rfl ?_|refine run_done rfl ?_)
    rfl
theorem sameClue_zero (c : Clu) : CallsOK PP F_impl_sameClue [.agg (rClu c), .agg [.int .i64 0, .sl 4 []]] [.v (.bool (zeroClue c))] := by
  refine S_impl_sameClue rfl (Nat.le_of_ble_eq_true rfl) ?_
  simp only [rClu]
  repeat' (first|refine goM rfl ?_|refine goR rfl ?_|refine goX rfl ?_|refine goY rfl ?_)
  cases ha : (c.sense == 0)
  · repeat' (first|refine goM rfl ?_|refine goY rfl ?_)
    (first|refine run_ret rfl ?_|refine run_done rfl ?_)
    simp [zeroClue, ha]
  · repeat' (first|refine goM rfl ?_|refine goY rfl ?_|refine goC (EqualStep_nil c.play) rfl rfl rfl rfl ?_)
    (first|refine run_ret rfl ?_|refine run_done rfl ?_)
    simp [zeroClue, ha]
theorem IsDraft1_ok (c : Clu) (h : c.play.length ≤ 1048576) : CallsOK PP F_impl_IsDraft_1 [.agg (rClu c)] [.v (.bool (!(zeroClue c || isClue c)))] := by
  refine S_impl_IsDraft_1 rfl (Nat.le_of_ble_eq_true rfl) ?_
  have h1 := IsClue_ok c h
  have h2 := sameClue_zero c
  simp only [rClu] at h1 h2 ⊢
  repeat' (first|refine goM rfl ?_|refine goR rfl ?_|refine goX rfl ?_|refine goY rfl ?_|refine goC (h1) rfl rfl rfl rfl ?_)
  cases ha : isClue c
  · repeat' (first|refine goM rfl ?_|refine goY rfl ?_|refine goC (h2) rfl rfl rfl rfl ?_)
    (first|refine run_ret rfl ?_|refine run_done rfl ?_)
    simp
  · repeat' (first|refine goM rfl ?_|refine goY rfl ?_)
    (first|refine run_ret rfl ?_|refine run_done rfl ?_)
    simp
theorem IsDraft_ok (x : Dra) (h : smDra x) : CallsOK PP F_impl_IsDraft [.agg (rDra x)] [.v (.bool (isDraft x))] := by
  refine S_impl_IsDraft rfl (Nat.le_of_ble_eq_true rfl) ?_
  have h1 := FormOf_ok x.grid h.cells
  have h2 := IsFill_ok x.grid x.fill h.cells
  have h3 := SlotsOf_ok x.grid h.cells
  have h4 := ContainsClue_ok x.clues F_impl_IsDraft_1 (fun c => !(zeroClue c || isClue c)) (callable_of Tryz.func200 rfl) h.clues (fun c hc => IsDraft1_ok c (h.plays c hc))
  have e1 : ∀ a b : Nat, ((a : Int) == (b : Int)) = (a == b) := fun a b => by rw [Bool.eq_iff_iff, beq_iff_eq, beq_iff_eq]; omega
  simp only [rGrd] at h1 h2 h3
  simp only [rDra]
  repeat' (first|refine goM rfl ?_|refine goR rfl ?_|refine goX rfl ?_|refine goY rfl ?_|refine goC (h1) rfl rfl rfl rfl ?_)
  cases hf : (formOf x.grid == 0)
  · repeat' (first|refine goM rfl ?_|refine goY rfl ?_)
    (first|refine run_ret rfl ?_|refine run_done rfl ?_)
    simp [isDraft, hf]
  · repeat' (first|refine goM rfl ?_|refine goC (h2) rfl rfl rfl rfl ?_)
    cases hg : isFill x.grid x.fill
    · repeat' (first|refine goM rfl ?_|refine goY rfl ?_)
      (first|refine run_ret rfl ?_|refine run_done rfl ?_)
      simp [isDraft, hg]
    · repeat' (first|refine goM rfl ?_|refine goC (h3) rfl rfl rfl rfl ?_)
      simp only [List.length_map, e1]
      cases ha : (x.clues.length == (slotsOf x.grid).length)
      · repeat' (first|refine goM rfl ?_|refine goY rfl ?_)
        (first|refine run_ret rfl ?_|refine run_done rfl ?_)
        simp [isDraft, ha]
      · repeat' (first|refine goM rfl ?_|refine goC (InRange_ok _ _ _) rfl rfl rfl rfl ?_)
        cases hr : inR x.ver 1 9999
        · repeat' (first|refine goM rfl ?_|refine goY rfl ?_)
          (first|refine run_ret rfl ?_|refine run_done rfl ?_)
          simp [isDraft, hr]
        · repeat' (first|refine goM rfl ?_|refine goY rfl ?_|refine goC (h4) rfl rfl rfl rfl ?_)
          (first|refine run_ret rfl ?_|refine run_done rfl ?_)
          rw [any_not_all]; simp [isDraft, hf, hg, ha, hr]
theorem IsDraft_ok' (x : Dra) (h : smDra x) : CallsOK PP F_spec_IsDraft [.agg (rDra x)] [.v (.bool (isDraft x))] := by
  refine S_spec_IsDraft rfl (Nat.le_of_ble_eq_true rfl) ?_
  have h1 := FormOf_ok' x.grid h.cells
  have h2 := IsFill_ok' x.grid x.fill h.cells
  have h3 := SlotsOf_ok' x.grid h.cells
  have e1 : ∀ a b : Nat, ((a : Int) == (b : Int)) = (a == b) := fun a b => by rw [Bool.eq_iff_iff, beq_iff_eq, beq_iff_eq]; omega
  simp only [rGrd] at h1 h2 h3
  have hpz : isDraft x = ((formOf x.grid == 0) && isFill x.grid x.fill && (x.clues.length == (slotsOf x.grid).length) && inR x.ver 1 9999 && x.clues.all (fun c => zeroClue c || isClue c)) := rfl
  rw [hpz]
  have key : ∀ k : Nat, L_spec_IsDraft_0 PP [(1, .box (rDra x)), (3, .v (.int .i64 k))] [.v (.bool ((formOf x.grid == 0) && isFill x.grid x.fill && (x.clues.length == (slotsOf x.grid).length) && inR x.ver 1 9999 && (x.clues.drop k).all (fun c => zeroClue c || isClue c)))] := up x.clues.length (fun k ih => ?_)
  · repeat' (first|refine goM rfl ?_|refine goR rfl ?_|refine goX rfl ?_|refine goY rfl ?_)
    refine run_loopF rfl ?_
    exact key 0
  · simp only [rDra] at ih ⊢
    repeat' (first|refine goM rfl ?_|refine goR rfl ?_|refine goX rfl ?_|refine goY rfl ?_)
    simp only [List.length_map]
    refine run_cnd_lt rfl (fun hk => ?_) (fun hk => ?_)
    · have hz := l27Zero_ok x.clues[k]
      have hq := IsClue_ok' x.clues[k] (h.plays _ (List.getElem_mem hk))
      simp only [rClu] at hz hq
      rw [all_drop _ _ hk]
      have hc := h.clues
      repeat' (first|refine mid_idxm rfl rfl hk rfl ?_|refine goM rfl ?_|refine goR rfl ?_|refine goX rfl ?_|refine goC (hz) rfl rfl rfl rfl ?_)
      cases hb : zeroClue x.clues[k]
      · repeat' (first|refine mid_idxm rfl rfl hk rfl ?_|refine goM rfl ?_|refine goY rfl ?_|refine goC (hq) rfl rfl rfl rfl ?_)
        cases hb2 : isClue x.clues[k]
        · repeat' (first|refine goM rfl ?_|refine goR rfl ?_|refine goX rfl ?_|refine goY rfl ?_)
          (first|refine run_ret rfl ?_|refine run_done rfl ?_)
          simp
        · repeat' (first|refine goM rfl ?_|refine goR rfl ?_|refine goX rfl ?_|refine goY rfl ?_)
          refine run_backF rfl ?_
          rw [wsucc (by omega)]
          simpa using ih hk
      · repeat' (first|refine goM rfl ?_|refine goR rfl ?_|refine goX rfl ?_|refine goY rfl ?_)
        refine run_backF rfl ?_
        rw [wsucc (by omega)]
        simpa using ih hk
    · rw [all_drop_nil _ _ hk, Bool.and_true]
      repeat' (first|refine goM rfl ?_|refine goR rfl ?_|refine goX rfl ?_|refine goC (h1) rfl rfl rfl rfl ?_)
      cases hf : (formOf x.grid == 0)
      · repeat' (first|refine goM rfl ?_|refine goY rfl ?_)
        (first|refine run_ret rfl ?_|refine run_done rfl ?_)
        rfl
      · repeat' (first|refine goM rfl ?_|refine goC (h2) rfl rfl rfl rfl ?_)
        cases hg : isFill x.grid x.fill
        · repeat' (first|refine goM rfl ?_|refine goY rfl ?_)
          (first|refine run_ret rfl ?_|refine run_done rfl ?_)
          rfl
        · repeat' (first|refine goM rfl ?_|refine goC (h3) rfl rfl rfl rfl ?_)
          simp only [List.length_map, e1]
          cases ha : (x.clues.length == (slotsOf x.grid).length)
          · repeat' (first|refine goM rfl ?_|refine goY rfl ?_)
            (first|refine run_ret rfl ?_|refine run_done rfl ?_)
            rfl
          · repeat' (first|refine goM rfl ?_|refine goY rfl ?_|refine goC (l1In_ok _ _ _) rfl rfl rfl rfl ?_)
            (first|refine run_ret rfl ?_|refine run_done rfl ?_)
            rfl
end Go.Rd

namespace Go.Rd
open Go.Proofs
set_option linter.unusedSimpArgs false
set_option linter.unusedVariables false
set_option maxRecDepth 10000
set_option maxHeartbeats 2000000
noncomputable def setOk (x : Dra) (i : Int) (c : Clu) : Bool := isDraft x && decide (0 ≤ i ∧ i < x.clues.length) && isClue c && decide (x.ver < 9999)
noncomputable def setClue (x : Dra) (i : Int) (c : Clu) : Dra := if setOk x i c then ⟨x.grid, x.fill, x.clues.set i.toNat c, x.ver + 1⟩ else x
theorem draft_ver {x : Dra} (h : isDraft x = true) : 1 ≤ x.ver ∧ x.ver ≤ 9999 := by
  simp only [isDraft, Bool.and_eq_true, inR, decide_eq_true_eq] at h; omega
theorem rClu_set (l : List Clu) (n : Nat) (c : Clu) : (l.map rClu).set n (rClu c) = (l.set n c).map rClu := List.map_set.symm
theorem oClu_set (l : List Clu) (n : Nat) (c : Clu) : (l.map oClu).set n (oClu c) = (l.set n c).map oClu := List.map_set.symm
theorem fz_set (l : List Clu) (n : Nat) (c : Clu) : frzRows ((l.map oClu).set n (oClu c)) = (l.set n c).map rClu := by rw [oClu_set, fz_clu]
theorem SetClue_dp' (x : Dra) (i : Int) (c : Clu) (h : smDraft x) (hd : smDra x) (hc : smClue c) : CallsH PP F_spec_SetClue [] [kClu (setClue x i c).clues] (fun _ => [.agg (rDra x), .v (.int .i64 i), .agg (rClu c)]) (fun u => [.agg (vDra (setClue x i c) (u 0)), .v (.bool (setOk x i c))]) := by
  refine SQ_spec_SetClue [] [1000] (fun _ => rfl) (fun _ => ⟨Nat.le_of_ble_eq_true rfl, by simp⟩) (by simp) (by simp) (fun u Q hQ => ?_)
  have hend : ∀ (E : Env) (v : Value) (bs : List Nat), resP E [.cella 6, .tmp 7] = some [.agg (vDra (setClue x i c) v), .v (.bool (setOk x i c))] → get E 1000 = .heap true v bs T_impl_Clue 2 32 ((setClue x i c).clues.map rClu) → Q E := fun E v bs h1 h2 => hQ E ⟨(fun _ => v, fun _ => bs), h1, by simp, h2, trivial⟩
  clear hQ
  have h1 := l27Copy_dp x h
  have h2 := IsDraft_ok' x hd
  have h3 := IsClue_ok' c hc.1
  have hl := hd.clues
  simp only [rDra, rClu] at h1 h2 h3 ⊢
  repeat' (first|refine goM rfl ?_|refine goR rfl ?_|refine goX rfl ?_|refine goY rfl ?_)
  refine mid_callF1 (res := fun v => [.agg (vDra x v)]) 1000 h1 rfl rfl (fun _ => rfl) (fun _ => rfl) rfl rfl (by decide) (fun v bs => ?_)
  repeat' (first|refine goM rfl ?_|refine goR rfl ?_|refine goX rfl ?_|refine goY rfl ?_|refine goC (h2) rfl rfl rfl rfl ?_)
  cases ha : isDraft x
  · have e : setOk x i c = false := by simp [setOk, ha]
    simp only [setClue, e, if_neg (Bool.false_ne_true)] at hend
    repeat' (first|refine goM rfl ?_|refine goR rfl ?_|refine goX rfl ?_|refine goY rfl ?_)
    exact .ret (hend _ v bs rfl rfl)
  · obtain ⟨hv1, hv2⟩ := draft_ver ha
    have hw : IntKind.i64.wrap (x.clues.length - 1 : Int) = x.clues.length - 1 := w64 (by omega) (by omega)
    repeat' (first|refine goM rfl ?_|refine goC (l1In_ok _ _ _) rfl rfl rfl rfl ?_)
    simp only [List.length_map, hw]
    cases hb : inR i 0 (x.clues.length - 1 : Int)
    · have e : setOk x i c = false := by
        have : ¬ (0 ≤ i ∧ i < x.clues.length) := fun h => by simp only [inR, Bool.and_eq_false_iff, decide_eq_false_iff_not] at hb; omega
        simp [setOk, this]
      simp only [setClue, e, if_neg (Bool.false_ne_true)] at hend
      repeat' (first|refine goM rfl ?_|refine goR rfl ?_|refine goX rfl ?_|refine goY rfl ?_)
      exact .ret (hend _ v bs rfl rfl)
    · repeat' (first|refine goM rfl ?_|refine goC (h3) rfl rfl rfl rfl ?_)
      cases hq : isClue c
      · have e : setOk x i c = false := by simp [setOk, hq]
        simp only [setClue, e, if_neg (Bool.false_ne_true)] at hend
        repeat' (first|refine goM rfl ?_|refine goR rfl ?_|refine goX rfl ?_|refine goY rfl ?_)
        exact .ret (hend _ v bs rfl rfl)
      · repeat' (first|refine goM rfl ?_|refine goY rfl ?_)
        refine run_cnd rfl (fun hg => ?_) (fun hg => ?_)
        · have e : setOk x i c = false := by
            simp only [decide_eq_true_eq] at hg
            simp [setOk]; intros; omega
          simp only [setClue, e, if_neg (Bool.false_ne_true)] at hend
          repeat' (first|refine goM rfl ?_|refine goR rfl ?_|refine goX rfl ?_|refine goY rfl ?_)
          exact .ret (hend _ v bs rfl rfl)
        · obtain ⟨hi0, hi1⟩ : 0 ≤ i ∧ i < x.clues.length := by simp only [inR, Bool.and_eq_true, decide_eq_true_eq] at hb; omega
          have hg' : x.ver < 9999 := by simpa using hg
          have e : setOk x i c = true := by simp [setOk, ha, hq, hi0, hi1, hg']
          simp only [setClue, e, if_true] at hend
          obtain ⟨n, rfl⟩ := Int.eq_ofNat_of_zero_le hi0
          have hn : n < x.clues.length := by omega
          have hwv : IntKind.i64.wrap (x.ver + 1) = x.ver + 1 := w64 (by omega) (by omega)
          have hcp := l18Copy_ok c hc
          simp only [rClu] at hcp
          have hrow : x.clues.map rClu = (x.clues.map rClu).set n (rClu x.clues[n]) := by rw [rClu_set, List.set_getElem_self]
          have hnl : n < (x.clues.map rClu).length := by simpa using hn
          rw [hrow]
          repeat' (first|refine goSc hcp rfl rfl rfl rfl rfl rfl rfl rfl ?_|refine goSi (m := 1000) (by rw [List.length_set]; exact hnl) rfl rfl rfl rfl rfl rfl rfl rfl ?_|refine goSs (m := 1000) hnl rfl rfl rfl rfl rfl rfl rfl rfl rfl rfl ?_|refine mix_run rfl ?_|refine goF rfl ?_|refine mixF_nil rfl rfl rfl rfl ?_|refine mixP_nil rfl rfl ?_|refine goM rfl ?_|refine goR rfl ?_|refine goX rfl ?_|refine goY rfl ?_)
          rw [hwv]
          simp only [← rClu_set] at hend
          exact .ret (hend _ v bs rfl rfl)
theorem SetClue_ok' (x : Dra) (i : Int) (c : Clu) (h : smDraft x) (hd : smDra x) (hc : smClue c) : CallsOK PP F_spec_SetClue [.agg (rDra x), .v (.int .i64 i), .agg (rClu c)] [.agg (rDra (setClue x i c)), .v (.bool (setOk x i c))] :=
  callsOK_frz (SetClue_dp' x i c h hd hc) (fun v => ⟨.agg ⟨.same _, .same _, .same _, .same _, frH 0 rfl (fz_rclu _), .same _, trivial⟩, .v (.same _), trivial⟩)
theorem SetClue_dp (x : Dra) (i : Int) (c : Clu) (h : smDraft x) (hd : smDra x) (hc : smClue c) : CallsH PP F_impl_SetClue [] [hClu (setClue x i c).clues] (fun _ => [.agg (rDra x), .v (.int .i64 i), .agg (rClu c)]) (fun u => [.agg (vDra (setClue x i c) (u 0)), .v (.bool (setOk x i c))]) := by
  have h1 := copyDraft_dp x h
  have h2 := IsDraft_ok x hd
  have h3 := IsClue_ok c hc.1
  have hcp := copyClue_dp c hc
  have hl := hd.clues
  simp only [rDra, rClu] at h1 h2 h3 hcp ⊢
  by_cases hcase : isDraft x = true ∧ (0 ≤ i ∧ i < x.clues.length) ∧ isClue c = true
  case neg =>
    have e : setOk x i c = false := by
      simp only [not_and] at hcase
      cases ha : isDraft x <;> cases hq : isClue c <;> simp_all [setOk]
      intros; omega
    simp only [setClue, e, if_neg (Bool.false_ne_true)]
    refine SQ_impl_SetClue [] [1000] (fun _ => rfl) (fun _ => ⟨Nat.le_of_ble_eq_true rfl, by simp⟩) (by simp) (by simp) (fun u Q hQ => ?_)
    have hend : ∀ (E : Env) (v : Value) (bs : List Nat), resP E [.cella 6, .tmp 7] = some [.agg (vDra x v), .v (.bool false)] → get E 1000 = .heap true v bs T_impl_Clue 2 32 (x.clues.map oClu) → Q E := fun E v bs h1 h2 => hQ E ⟨(fun _ => v, fun _ => bs), h1, by simp, h2, trivial⟩
    clear hQ
    repeat' (first|refine goM rfl ?_|refine goR rfl ?_|refine goX rfl ?_|refine goY rfl ?_)
    refine mid_callV1t (res := fun v => [.agg (vDra x v)]) 1000 h1 rfl rfl (vwA_same _) (fun _ => rfl) (fun _ => rfl) (fun _ => rfl) (fr_clu _) (by simp) rfl rfl (by decide) (fun v bs => ?_)
    repeat' (first|refine goM rfl ?_|refine goR rfl ?_|refine goX rfl ?_|refine goY rfl ?_|refine goC (h2) rfl rfl rfl rfl ?_)
    cases ha : isDraft x
    · repeat' (first|refine goM rfl ?_|refine goR rfl ?_|refine goX rfl ?_|refine goY rfl ?_)
      exact .ret (hend _ v bs rfl rfl)
    · repeat' (first|refine goM rfl ?_|refine goC (at_ok _ _) rfl rfl rfl rfl ?_)
      simp only [List.length_map]
      cases hb : (decide (0 ≤ i) && decide (i < (x.clues.length : Int)))
      · repeat' (first|refine goM rfl ?_|refine goR rfl ?_|refine goX rfl ?_|refine goY rfl ?_)
        exact .ret (hend _ v bs rfl rfl)
      · have hq : isClue c = false := by
          simp only [Bool.and_eq_true, decide_eq_true_eq] at hb
          simpa using fun hq => hcase ⟨ha, hb, hq⟩
        rw [hq] at h3
        repeat' (first|refine goM rfl ?_|refine goR rfl ?_|refine goX rfl ?_|refine goY rfl ?_|refine goC (h3) rfl rfl rfl rfl ?_)
        exact .ret (hend _ v bs rfl rfl)
  case pos =>
  obtain ⟨ha, ⟨hi0, hi1⟩, hq⟩ := hcase
  obtain ⟨hv1, hv2⟩ := draft_ver ha
  obtain ⟨n, rfl⟩ := Int.eq_ofNat_of_zero_le hi0
  have hn : n < x.clues.length := by omega
  have hwv : IntKind.i64.wrap (x.ver + 1) = x.ver + 1 := w64 (by omega) (by omega)
  have hb : (decide (0 ≤ (n : Int)) && decide ((n : Int) < (x.clues.length : Int))) = true := by simp [hi1]
  have hrow : x.clues.map oClu = (x.clues.map oClu).set n (oClu x.clues[n]) := by rw [oClu_set, List.set_getElem_self]
  have hnl : n < (x.clues.map oClu).length := by simpa using hn
  generalize hy : (⟨x.grid, x.fill, x.clues.set n c, x.ver + 1⟩ : Dra) = y
  have hdy : smDra y := by
    subst hy
    refine ⟨hd.cells, by simpa using hl, fun c' hc' => ?_⟩
    rcases List.mem_or_eq_of_mem_set hc' with h | h
    · exact hd.plays c' h
    · rw [h]; exact hc.1
  have h4 := IsDraft_ok y hdy
  have hyd : isDraft y = decide (x.ver < 9999) := by
    subst hy
    have hall : (x.clues.set n c).all (fun c => zeroClue c || isClue c) = true := by
      simp only [isDraft, Bool.and_eq_true] at ha
      refine List.all_eq_true.2 (fun c' hc' => ?_)
      rcases List.mem_or_eq_of_mem_set hc' with h | h
      · exact List.all_eq_true.1 ha.2 c' h
      · rw [h, hq, Bool.or_true]
    have hir : inR (x.ver + 1) 1 9999 = decide (x.ver < 9999) := by
      simp only [inR]
      rw [decide_eq_true (by omega : 1 ≤ x.ver + 1), Bool.true_and]
      exact decide_eq_decide.2 (by omega)
    simp only [isDraft, Bool.and_eq_true] at ha
    simp only [isDraft, hall, hir, List.length_set, ha.1.1.1.1, ha.1.1.1.2, ha.1.1.2, Bool.true_and, Bool.and_true]
  rw [ha] at h2
  rw [hq] at h3
  rw [hyd] at h4
  subst hy
  simp only [rDra] at h4
  cases hg : decide (x.ver < 9999)
  · have e : setOk x n c = false := by simp [setOk, hg]
    simp only [setClue, e, if_neg (Bool.false_ne_true)]
    refine SQ_impl_SetClue [] [1003] (fun _ => rfl) (fun _ => ⟨Nat.le_of_ble_eq_true rfl, by simp⟩) (by simp) (by simp) (fun u Q hQ => ?_)
    have hend : ∀ (E : Env) (v : Value) (bs : List Nat), resP E [.cella 6, .tmp 7] = some [.agg (vDra x v), .v (.bool false)] → get E 1003 = .heap true v bs T_impl_Clue 2 32 (x.clues.map oClu) → Q E := fun E v bs h1 h2 => hQ E ⟨(fun _ => v, fun _ => bs), h1, by simp, h2, trivial⟩
    clear hQ
    repeat' (first|refine goM rfl ?_|refine goR rfl ?_|refine goX rfl ?_|refine goY rfl ?_)
    refine mid_callV1t (res := fun v => [.agg (vDra x v)]) 1000 h1 rfl rfl (vwA_same _) (fun _ => rfl) (fun _ => rfl) (fun _ => rfl) (fr_clu _) (by simp) rfl rfl (by decide) (fun v bs => ?_)
    repeat' (first|refine goM rfl ?_|refine goR rfl ?_|refine goX rfl ?_|refine goY rfl ?_|refine goC (h2) rfl rfl rfl rfl ?_|refine goC (at_ok _ _) rfl rfl rfl rfl ?_)
    simp only [List.length_map]
    rw [hb]
    repeat' (first|refine goM rfl ?_|refine goR rfl ?_|refine goY rfl ?_|refine goC (h3) rfl rfl rfl rfl ?_)
    rw [show Slot.heap true v bs T_impl_Clue 2 32 (x.clues.map oClu) = Slot.heap true v bs T_impl_Clue 2 32 ((x.clues.map oClu).set n (oClu x.clues[n])) from by rw [← hrow]]
    refine run_openS (m := 1000) (o := 1) (r := oClu x.clues[n]) (r' := []) 1001 hnl rfl rfl rfl (fun w bs1 bs2 => ?_)
    repeat' (first|refine mix_run rfl ?_|refine goF rfl ?_|refine mixF_nil rfl rfl rfl rfl ?_)
    refine mixP_call1 (n := 1002) (res := fun v => [.agg (vClu c v)]) rfl rfl rfl hcp rfl rfl rfl (fun _ => rfl) (fun _ => rfl) (fun _ => rfl) (fr_stp _) rfl (by decide) rfl (fun w2 bs3 => ?_)
    repeat' (first|refine goSi (m := 1000) (by rw [List.length_set]; exact hnl) rfl rfl rfl rfl rfl rfl rfl rfl ?_|refine goSs (m := 1000) hnl rfl rfl rfl rfl rfl rfl rfl rfl rfl rfl ?_|refine mixP_nil rfl rfl ?_|refine goM rfl ?_|refine goR rfl ?_|refine goX rfl ?_|refine goY rfl ?_)
    refine mid_gh (gh_close (m := 1000) (n := 1002) (i := n) (o := 1) rfl (by rw [rowAt_set hnl]; rfl) rfl (by decide) (fun h => h)) (fun u4 => ?_)
    rw [rowAt_set hnl, List.set_set, hwv]
    generalize u4.2 1 = bs4
    generalize u4.2 0 = bs5
    refine mid_callV0 h4 rfl rfl ⟨.agg ⟨.same _, .same _, .same _, .same _, .heap (m := 1000) rfl (fz_set _ _ _), .same _, trivial⟩, trivial⟩ rfl rfl rfl rfl ?_
    rw [hg]
    repeat' (first|refine goM rfl ?_|refine goR rfl ?_|refine goX rfl ?_|refine goY rfl ?_)
    refine mid_callV1t (res := fun v => [.agg (vDra x v)]) 1003 h1 rfl rfl (vwA_same _) (fun _ => rfl) (fun _ => rfl) (fun _ => rfl) (fr_clu _) (by simp) rfl rfl (by decide) (fun v3 bs6 => ?_)
    repeat' (first|refine goM rfl ?_|refine goY rfl ?_)
    exact .ret (hend _ v3 bs6 rfl rfl)
  · have e : setOk x n c = true := by simp [setOk, hg, ha, hq, hi1]
    simp only [setClue, e, if_true]
    refine SQ_impl_SetClue [] [1000] (fun _ => rfl) (fun _ => ⟨Nat.le_of_ble_eq_true rfl, by simp⟩) (by simp) (by simp) (fun u Q hQ => ?_)
    have hend : ∀ (E : Env) (v : Value) (bs : List Nat), resP E [.cella 6, .tmp 7] = some [.agg (vDra ⟨x.grid, x.fill, x.clues.set n c, x.ver + 1⟩ v), .v (.bool true)] → get E 1000 = .heap true v bs T_impl_Clue 2 32 ((x.clues.set n c).map oClu) → Q E := fun E v bs h1 h2 => hQ E ⟨(fun _ => v, fun _ => bs), h1, by simp, h2, trivial⟩
    clear hQ
    repeat' (first|refine goM rfl ?_|refine goR rfl ?_|refine goX rfl ?_|refine goY rfl ?_)
    refine mid_callV1t (res := fun v => [.agg (vDra x v)]) 1000 h1 rfl rfl (vwA_same _) (fun _ => rfl) (fun _ => rfl) (fun _ => rfl) (fr_clu _) (by simp) rfl rfl (by decide) (fun v bs => ?_)
    repeat' (first|refine goM rfl ?_|refine goR rfl ?_|refine goX rfl ?_|refine goY rfl ?_|refine goC (h2) rfl rfl rfl rfl ?_|refine goC (at_ok _ _) rfl rfl rfl rfl ?_)
    simp only [List.length_map]
    rw [hb]
    repeat' (first|refine goM rfl ?_|refine goR rfl ?_|refine goY rfl ?_|refine goC (h3) rfl rfl rfl rfl ?_)
    rw [hrow]
    refine run_openS (m := 1000) (o := 1) (r := oClu x.clues[n]) (r' := []) 1001 hnl rfl rfl rfl (fun w bs1 bs2 => ?_)
    repeat' (first|refine mix_run rfl ?_|refine goF rfl ?_|refine mixF_nil rfl rfl rfl rfl ?_)
    refine mixP_call1 (n := 1002) (res := fun v => [.agg (vClu c v)]) rfl rfl rfl hcp rfl rfl rfl (fun _ => rfl) (fun _ => rfl) (fun _ => rfl) (fr_stp _) rfl (by decide) rfl (fun w2 bs3 => ?_)
    repeat' (first|refine goSi (m := 1000) (by rw [List.length_set]; exact hnl) rfl rfl rfl rfl rfl rfl rfl rfl ?_|refine goSs (m := 1000) hnl rfl rfl rfl rfl rfl rfl rfl rfl rfl rfl ?_|refine mixP_nil rfl rfl ?_|refine goM rfl ?_|refine goR rfl ?_|refine goX rfl ?_|refine goY rfl ?_)
    refine mid_gh (gh_close (m := 1000) (n := 1002) (i := n) (o := 1) rfl (by rw [rowAt_set hnl]; rfl) rfl (by decide) (fun h => h)) (fun u4 => ?_)
    rw [rowAt_set hnl, List.set_set, hwv]
    generalize u4.2 1 = bs4
    generalize u4.2 0 = bs5
    refine mid_callV0 h4 rfl rfl ⟨.agg ⟨.same _, .same _, .same _, .same _, .heap (m := 1000) rfl (fz_set _ _ _), .same _, trivial⟩, trivial⟩ rfl rfl rfl rfl ?_
    rw [hg]
    repeat' (first|refine goM rfl ?_|refine goR rfl ?_|refine goX rfl ?_|refine goY rfl ?_)
    simp only [← oClu_set] at hend
    exact .ret (hend _ v bs5 rfl rfl)
end Go.Rd

namespace Go.Rd
open Go.Proofs
set_option linter.unusedSimpArgs false
set_option linter.unusedVariables false
set_option maxRecDepth 10000
set_option maxHeartbeats 2000000
def onDesk (h : Hou) (d : Dra) : Hou := ⟨h.list, h.dict, d, h.issues, h.uses, h.cors, h.ents, h.now⟩
theorem StepClue_ok' (h : Hou) (i : Int) (c : Clu) (hs : smHouse h) (hd : smDra h.desk) (hc : smClue c) : CallsOK PP F_spec_StepClue [.agg (rHou h), .v (.int .i64 i), .agg (rClu c)] [.agg (rHou (onDesk h (setClue h.desk i c))), .v (.bool (setOk h.desk i c))] := by
  have h1 := l33Copy_ok h hs
  have h2 := SetClue_ok' h.desk i c hs.2.2.1 hd hc
  refine S_spec_StepClue rfl (Nat.le_of_ble_eq_true rfl) ?_
  simp only [rHou, rClu, rDra] at h1 h2 ⊢
  repeat' (first|refine goM rfl ?_|refine goR rfl ?_|refine goX rfl ?_|refine goY rfl ?_|refine goC (h1) rfl rfl rfl rfl ?_|refine goC (h2) rfl rfl rfl rfl ?_)
  cases hb : setOk h.desk i c
  · repeat' (first|refine goM rfl ?_|refine goR rfl ?_|refine goX rfl ?_|refine goY rfl ?_)
    (first|refine run_ret rfl ?_|refine run_done rfl ?_)
    simp only [onDesk, setClue, hb]; rfl
  · repeat' (first|refine goM rfl ?_|refine goR rfl ?_|refine goX rfl ?_|refine goY rfl ?_)
    (first|refine run_ret rfl ?_|refine run_done rfl ?_)
    rfl
theorem StepClue_dp (h : Hou) (i : Int) (c : Clu) (hs : smHouse h) (hd : smDra h.desk) (hc : smClue c) : CallsH PP F_impl_StepClue [] (hHou (onDesk h (setClue h.desk i c))) (fun _ => [.agg (rHou h), .v (.int .i64 i), .agg (rClu c)])
    (fun u => [.agg (vHou (onDesk h (setClue h.desk i c)) (u 0) (u 1) (u 2) (u 3) (u 4) (u 5) (u 6)), .v (.bool (setOk h.desk i c))]) := by
  have h1 := copyHouse_dp h hs
  have h2 := SetClue_dp h.desk i c hs.2.2.1 hd hc
  refine SQ_impl_StepClue [] [1000, 1001, 1007, 1003, 1004, 1005, 1006] (fun _ => rfl) (fun _ => ⟨Nat.le_of_ble_eq_true rfl, by simp⟩) (by simp) (by simp) (fun u Q hQ => ?_)
  simp only [rHou, rClu, rDra] at h1 h2 ⊢
  repeat' (first|refine goM rfl ?_|refine goR rfl ?_|refine goX rfl ?_|refine goY rfl ?_)
  refine mid_callV7t (res := fun v0 v1 v2 v3 v4 v5 v6 => [.agg (vHou h v0 v1 v2 v3 v4 v5 v6)]) 1000 1001 1002 1003 1004 1005 1006 h1 rfl rfl (vwA_same _) (fun _ _ _ _ _ _ _ => rfl) (fun _ _ _ _ _ _ _ => rfl) (fun _ _ _ _ _ _ _ => rfl)
    ⟨fr_lis _, fr_mea _, fr_clu _, fr_iss _, fr_use _, fr_cor _, fr_ent _⟩ (by decide) ⟨rfl, rfl, rfl, rfl, rfl, rfl, rfl⟩ rfl (by decide) (fun v0 v1 v2 v3 v4 v5 v6 b0 b1 b2 b3 b4 b5 b6 => ?_)
  repeat' (first|refine goM rfl ?_|refine goR rfl ?_|refine goX rfl ?_|refine goY rfl ?_)
  refine mid_callV1t (res := fun v => [.agg (vDra (setClue h.desk i c) v), .v (.bool (setOk h.desk i c))]) 1007 h2 rfl rfl (vwA_same _) (fun _ => rfl) (fun _ => rfl) (fun _ => rfl) (fr_clu _) (by simp) rfl rfl (by decide) (fun v7 b7 => ?_)
  repeat' (first|refine goM rfl ?_|refine goR rfl ?_|refine goX rfl ?_|refine goY rfl ?_)
  exact .ret (hQ _ ⟨(selV v0 v1 v7 v3 v4 v5 v6, selV b0 b1 b7 b3 b4 b5 b6), rfl, by simp, rfl, rfl, rfl, rfl, rfl, rfl, rfl, trivial⟩)
end Go.Rd

namespace Go.Rd
set_option linter.unusedVariables false
def cLis (x : Lis) : Nat := x.word.length
def cMea (x : Mea) : Nat := x.word.length
def cStp (x : Stp) : Nat := x.word.length
def cUse (x : Use) : Nat := x.word.length
def cEnt (x : Ent) : Nat := x.fill.length
def cLst {α : Type} (f : α → Nat) (xs : List α) : Nat := xs.length + tot f xs
def cClu (c : Clu) : Nat := cLst cStp c.play
def cDra (d : Dra) : Nat := d.grid.cells.length + (d.fill.length + cLst cClu d.clues)
def cPuz (p : Puz) : Nat := p.grid.cells.length + (cLst cClu p.clues + p.seals.length)
def cIss (x : Iss) : Nat := cPuz x.puz + x.fill.length
def cCor (x : Cor) : Nat := cClu x.clue
def cHou (h : Hou) : Nat := cLst cLis h.list + (cLst cMea h.dict + (cDra h.desk + (cLst cIss h.issues + (cLst cUse h.uses + (cLst cCor h.cors + cLst cEnt h.ents)))))
theorem less_one {f : Int → Int} {a : Nat} (h : Less f a) : Less (seqz [f]) a := less_cons h less_nil
theorem less_lis (x : Lis) (h : bgListed x) : Less (sz_Listed x) (cLis x) := less_one (less_wdec h)
theorem less_mea (x : Mea) (h : bgMeaning x) : Less (sz_Meaning x) (cMea x) := less_one (less_wdec h)
theorem less_stp (x : Stp) (h : bgStep x) : Less (sz_Step x) (cStp x) := less_one (less_wdec h)
theorem less_use (x : Use) (h : bgUsed x) : Less (sz_Used x) (cUse x) := less_one (less_wdec h)
theorem less_ent (x : Ent) (h : bgEntry x) : Less (sz_Entry x) (cEnt x) := less_one (less_wdec h)
theorem less_grd (x : Grd) (h : bgGrid x) : Less (sz_Grid x) x.cells.length := less_one (less_wdec h)
theorem less_clu (x : Clu) (h : bgClue x) : Less (sz_Clue x) (cClu x) := less_one (less_list h.1 (fun y hy => less_stp y (h.2 y hy)))
theorem less_clus (xs : List Clu) (h : bgClueS xs) : Less (szList sz_Clue xs) (cLst cClu xs) := less_list h.1 (fun y hy => less_clu y (h.2 y hy))
theorem less_dra (x : Dra) (h : bgDraft x) : Less (sz_Draft x) (cDra x) := less_cons (less_grd _ h.1) (less_cons (less_wdec h.2.1) (less_one (less_clus _ h.2.2)))
theorem less_ints (xs : List Int) (h : bgIntS xs) : Less (sz_IntS xs) xs.length := fun l h0 h1 h2 => by
  unfold sz_IntS at h2 ⊢
  split at h2
  · omega
  · rename_i hn
    rw [if_neg hn]
    exact less_wdec h.1 l h0 h1 (by omega)
theorem less_puz (x : Puz) (h : bgPuzzle x) : Less (sz_Puzzle x) (cPuz x) := less_cons (less_grd _ h.1) (less_cons (less_clus _ h.2.1) (less_one (less_ints _ h.2.2)))
theorem less_iss (x : Iss) (h : bgIssue x) : Less (sz_Issue x) (cIss x) := less_cons (less_puz _ h.1) (less_one (less_wdec h.2))
theorem less_cor (x : Cor) (h : bgCorrection x) : Less (sz_Correction x) (cCor x) := less_one (less_clu _ h)
theorem less_hou (h : Hou) (hb : bgHouse h) : Less (sz_House h) (cHou h) := by
  obtain ⟨h1, h2, h3, h4, h5, h6, h7⟩ := hb
  exact less_cons (less_list h1.1 (fun y hy => less_lis y (h1.2 y hy))) (less_cons (less_list h2.1 (fun y hy => less_mea y (h2.2 y hy))) (less_cons (less_dra _ h3) (less_cons (less_list h4.1 (fun y hy => less_iss y (h4.2 y hy)))
    (less_cons (less_list h5.1 (fun y hy => less_use y (h5.2 y hy))) (less_cons (less_list h6.1 (fun y hy => less_cor y (h6.2 y hy))) (less_one (less_list h7.1 (fun y hy => less_ent y (h7.2 y hy)))))))))
theorem mem_le {α : Type} {f : α → Nat} {xs : List α} {x : α} {n : Nat} (h : cLst f xs ≤ n) (hx : x ∈ xs) : f x ≤ n := by
  have := tot_mem f hx; unfold cLst at h; omega
theorem len_le {α : Type} {f : α → Nat} {xs : List α} {n : Nat} (h : cLst f xs ≤ n) : xs.length ≤ n := by unfold cLst at h; omega
theorem sm_clu {x : Clu} (h : cClu x ≤ 1048576) : smClue x := ⟨len_le h, fun _ _ => trivial⟩
theorem sm_clus {xs : List Clu} (h : cLst cClu xs ≤ 1048576) : smClueS xs := ⟨len_le h, fun x hx => sm_clu (mem_le h hx)⟩
theorem sm_hou {h : Hou} (hc : cHou h ≤ 1048576) : smHouse h := by
  unfold cHou cDra at hc
  refine ⟨⟨len_le (f := cLis) (by omega), fun _ _ => trivial⟩, ⟨len_le (f := cMea) (by omega), fun _ _ => trivial⟩, ⟨trivial, sm_clus (by omega)⟩, ⟨len_le (f := cIss) (by omega), fun x hx => ?_⟩, ⟨len_le (f := cUse) (by omega), fun _ _ => trivial⟩, ⟨len_le (f := cCor) (by omega), fun x hx => ?_⟩, ⟨len_le (f := cEnt) (by omega), fun _ _ => trivial⟩⟩
  · have := mem_le (f := cIss) (n := 1048576) (by omega) hx
    unfold cIss cPuz at this
    exact ⟨trivial, sm_clus (by omega), ⟨by omega, trivial⟩⟩
  · exact sm_clu (mem_le (f := cCor) (n := 1048576) (by omega) hx)
theorem cnt_clu (c : Clu) : cntClu c ≤ cClu c := by unfold cntClu cClu cLst; omega
theorem tot_mono {α : Type} {f g : α → Nat} {xs : List α} (h : ∀ x ∈ xs, f x ≤ g x) : tot f xs ≤ tot g xs := by
  induction xs with
  | nil => simp [tot]
  | cons y ys ih =>
    rw [tot_cons, tot_cons]
    have := h y (by simp)
    have := ih (fun x hx => h x (by simp [hx]))
    omega
theorem cnt_clus (l : List Clu) : cntClus l ≤ cLst cClu l := by
  have := tot_mono (xs := l) (fun x _ => cnt_clu x)
  unfold cntClus cLst; omega
theorem cnt_iss (x : Iss) : cntIss x ≤ cIss x := by
  have := cnt_clus x.puz.clues
  unfold cntIss cntPuz cIss cPuz; omega
theorem cnt_hou (h : Hou) : cntHou h ≤ cHou h := by
  have h1 := cnt_clus h.desk.clues
  have h2 := tot_mono (xs := h.issues) (fun x _ => cnt_iss x)
  have h3 := tot_mono (xs := h.cors) (f := cntCor) (g := cCor) (fun x _ => cnt_clu x.clue)
  unfold cntHou cHou cntDra cDra cntIsss cntCors
  unfold cLst at h1 ⊢
  omega
theorem st_hou {h : Hou} (hc : cHou h ≤ 1048576) : stHou h ≤ 8388608 := by
  have := stHou_le h
  have := cnt_hou h
  omega
end Go.Rd

namespace Go.Rd
open Go.Proofs
set_option linter.unusedSimpArgs false
set_option linter.unusedVariables false
set_option maxRecDepth 10000
set_option maxHeartbeats 1000000
abbrev hNo : Env := [(1000, .undef), (1001, .undef), (1002, .undef), (1003, .undef), (1004, .undef), (1005, .undef), (1006, .undef), (1007, .undef), (1008, .undef), (1009, .undef)]
theorem markLoop : ∀ (k : Nat) (out : Str), out.length + k ≤ 1125899906842624 → ∃ s : Str, L_laws_markText_0 PP (fun E => resOf E [.tmp 2] = some [.v (.str s)]) ((0, .v (.int .i64 k)) :: (3, .v (.str out)) :: hNo) := by
  intro k
  induction k using Nat.strongRecOn with
  | _ k ih =>
    intro out hk
    have hq : IntKind.i64.wrap ((k : Int).tdiv 10) = ((k / 10 : Nat) : Int) := by
      rw [show ((k : Int).tdiv 10) = ((k / 10 : Nat) : Int) by rw [Int.tdiv_eq_ediv_of_nonneg (by omega)]; omega, w64 (by omega) (by omega)]
    rcases Nat.eq_zero_or_pos k with hz | hpos
    · refine ⟨109 :: out, ?_⟩
      repeat' (first|refine goM rfl ?_|refine goR rfl ?_|refine goX rfl ?_|refine goY rfl ?_)
      refine run_cnd rfl (fun h => ?_) (fun h => ?_)
      · have := of_decide_eq_true h; omega
      repeat' (first|refine mid_cat (s := [109]) (t := out) rfl rfl (by simp; omega) rfl ?_|refine goM rfl ?_|refine goR rfl ?_|refine goX rfl ?_|refine goY rfl ?_)
      (first|refine run_ret rfl ?_|refine run_done rfl ?_)
      rfl
    · obtain ⟨s, hs⟩ := ih (k / 10) (by omega) (UInt8.ofNat (IntKind.u8.wrap (IntKind.i64.wrap (48 + (k : Int).tmod 10))).toNat :: out) (by simp; omega)
      refine ⟨s, ?_⟩
      repeat' (first|refine goM rfl ?_|refine goR rfl ?_|refine goX rfl ?_|refine goY rfl ?_)
      refine run_cnd rfl (fun h => ?_) (fun h => ?_)
      · repeat' (first|refine mid_rem (q := (k : Int).tmod 10) rfl rfl (by decide) rfl rfl ?_|refine mid_b2s rfl rfl rfl ?_|refine mid_cat (t := out) rfl rfl (by simp; omega) rfl ?_|refine mid_quo rfl rfl (by decide) hq rfl ?_|refine goM rfl ?_|refine goR rfl ?_|refine goX rfl ?_|refine goY rfl ?_)
        exact run_backF rfl hs
      · have := of_decide_eq_false h; omega
theorem markText_ex (k : Nat) (hk : k ≤ 1099511627776) : ∃ s : Str, CallsOK PP F_laws_markText [.v (.int .i64 k)] [.v (.str s)] := by
  obtain ⟨s, hs⟩ := markLoop k [] (by simp; omega)
  rcases Nat.eq_zero_or_pos k with hz | hpos
  · refine ⟨[109, 48], S_laws_markText rfl (Nat.le_of_ble_eq_true rfl) ?_⟩
    repeat' (first|refine goM rfl ?_|refine goR rfl ?_|refine goX rfl ?_|refine goY rfl ?_)
    refine run_cnd rfl (fun h => ?_) (fun h => ?_)
    · repeat' (first|refine goM rfl ?_|refine goR rfl ?_|refine goX rfl ?_|refine goY rfl ?_)
      (first|refine run_ret rfl ?_|refine run_done rfl ?_)
      rfl
    · have := of_decide_eq_false h; omega
  · refine ⟨s, S_laws_markText rfl (Nat.le_of_ble_eq_true rfl) ?_⟩
    repeat' (first|refine goM rfl ?_|refine goR rfl ?_|refine goX rfl ?_|refine goY rfl ?_)
    refine run_cnd rfl (fun h => ?_) (fun h => ?_)
    · have := of_decide_eq_true h; omega
    · repeat' (first|refine goM rfl ?_|refine goR rfl ?_|refine goX rfl ?_|refine goY rfl ?_)
      exact run_loopF rfl hs
noncomputable def markT (k : Nat) : Str := Classical.epsilon fun s => CallsOK PP F_laws_markText [.v (.int .i64 k)] [.v (.str s)]
theorem markText_ok (k : Nat) (hk : k ≤ 1099511627776) : CallsOK PP F_laws_markText [.v (.int .i64 k)] [.v (.str (markT k))] := Classical.epsilon_spec (markText_ex k hk)
end Go.Rd

namespace Go.Rd
open Go.Proofs
set_option linter.unusedSimpArgs false
set_option linter.unusedVariables false
set_option maxRecDepth 10000
set_option maxHeartbeats 2000000
noncomputable def mkStp (_ : Stp) (k : Nat) : Stp := ⟨(k : Nat), markT (k + 1), (k + 1 + 1 : Nat), (k + 1 + 1 + 1 : Nat)⟩
theorem markStepS_ok (xs : List Stp) (k0 : Nat) (hs : smStepS xs) (hk0 : k0 + tot stStp xs ≤ 4294967296) :
    CallsH PP F_laws_markStepS [hStp xs] [hStp (mkAll mkStp stStp xs k0)] (fun u => [.v (.val (u 0)), .v (.int .i64 k0)]) (fun _ => [.v (.int .i64 ((k0 + tot stStp xs : Nat) : Int))]) := by
  obtain ⟨hlen, hall⟩ := hs
  refine SQ_laws_markStepS [1000] [1000] (fun _ => rfl) (fun _ => ⟨Nat.le_of_ble_eq_true rfl, by simp⟩) (by simp) (by simp) (fun u Q hQ => ?_)
  obtain ⟨uv, ub⟩ := u
  have hend : ∀ (E : Env) (bs : List Nat), resP E [.tmp 4] = some [.v (.int .i64 ((k0 + tot stStp xs : Nat) : Int))] → get E 1000 = .heap false (uv 0) bs T_impl_Step 4 40 ((mkAll mkStp stStp xs k0).map rStp) → Q E := fun E bs h1 h2 => hQ E ⟨(uv, fun _ => bs), h1, by simp, h2, trivial⟩
  clear hQ
  have key : ∀ n : Nat, ∀ bs, n ≤ xs.length → L_laws_markStepS_0 PP Q
      [(0, .v (.val (uv 0))), (1, .v (.int .i64 ((k0 + tot stStp (xs.take n) : Nat) : Int))), (5, .v (.int .i64 n)), (1000, .heap false (uv 0) bs T_impl_Step 4 40 ((mkPre mkStp stStp xs k0 n).map rStp)), (1001, .undef), (1002, .undef), (1003, .undef), (1004, .undef), (1005, .undef), (1006, .undef), (1007, .undef), (1008, .undef), (1009, .undef)] := up xs.length (fun n ih bs hn => ?_)
  · repeat' (first|refine goM rfl ?_|refine goR rfl ?_|refine goX rfl ?_|refine goY rfl ?_)
    refine run_loopF rfl ?_
    have := key 0 (ub 0) (Nat.zero_le _)
    rw [mkPre_zero] at this
    exact this
  · repeat' (first|refine mid_lenH (m := 1000) rfl rfl rfl ?_|refine goM rfl ?_|refine goR rfl ?_|refine goX rfl ?_|refine goY rfl ?_)
    rw [List.length_map, mkPre_len _ _ _ _ hn]
    refine run_cnd_lt rfl (fun hk => ?_) (fun hk => ?_)
    · have ih := ih hk
      rw [← mkPre_mapSet mkStp stStp rStp xs k0 hk, tot_take stStp xs hk, ← Nat.add_assoc] at ih
      rw [← mkPre_mapSelf mkStp stStp rStp xs k0 hk]
      have hb := tot_take_le stStp xs hk
      have hl : n < ((mkPre mkStp stStp xs k0 n).map rStp).length := by rw [List.length_map, mkPre_len _ _ _ _ hn]; exact hk
      have hb2 : k0 + tot stStp (xs.take n) + stStp xs[n] ≤ 4294967296 := by omega
      clear hb hn
      generalize k0 + tot stStp (xs.take n) = K at ih hb2 ⊢
      generalize (mkPre mkStp stStp xs k0 n).map rStp = es at ih hl ⊢
      simp only [stStp] at hb2
      have w0 : IntKind.i64.wrap (((K : Nat) : Int) + 1) = ((K + 1 : Nat) : Int) := wsucc (by omega)
      have w1 : IntKind.i64.wrap (((K + 1 : Nat) : Int) + 1) = ((K + 1 + 1 : Nat) : Int) := wsucc (by omega)
      have w2 : IntKind.i64.wrap (((K + 1 + 1 : Nat) : Int) + 1) = ((K + 1 + 1 + 1 : Nat) : Int) := wsucc (by omega)
      have w3 : IntKind.i64.wrap (((K + 1 + 1 + 1 : Nat) : Int) + 1) = ((K + 1 + 1 + 1 + 1 : Nat) : Int) := wsucc (by omega)
      repeat' (first|refine mid_idxS (m := 1000) hl rfl rfl rfl rfl ?_|refine mid_fldH rfl rfl ?_|refine goM rfl ?_|refine goR rfl ?_|refine goX rfl ?_)
      refine mid_stoS (m := 1000) (r' := [dI ((K : Nat) : Int), dS xs[n].word, dI xs[n].a, dI xs[n].b]) hl rfl rfl rfl rfl rfl rfl rfl ?_
      repeat' (first|refine goM rfl ?_|refine goR rfl ?_|refine goX rfl ?_|refine goY rfl ?_)
      rw [w0]
      repeat' (first|refine mid_idxS (m := 1000) hl rfl rfl rfl rfl ?_|refine mid_fldH rfl rfl ?_|refine goC (markText_ok (K + 1) (by omega)) rfl rfl rfl rfl ?_)
      refine mid_stoS (m := 1000) (r' := [dI ((K : Nat) : Int), dS (markT (K + 1)), dI xs[n].a, dI xs[n].b]) hl rfl rfl rfl rfl rfl rfl rfl ?_
      repeat' (first|refine goM rfl ?_|refine goR rfl ?_|refine goX rfl ?_|refine goY rfl ?_)
      rw [w1]
      repeat' (first|refine mid_idxS (m := 1000) hl rfl rfl rfl rfl ?_|refine mid_fldH rfl rfl ?_)
      refine mid_stoS (m := 1000) (r' := [dI ((K : Nat) : Int), dS (markT (K + 1)), dI ((K + 1 + 1 : Nat) : Int), dI xs[n].b]) hl rfl rfl rfl rfl rfl rfl rfl ?_
      repeat' (first|refine goM rfl ?_|refine goR rfl ?_|refine goX rfl ?_|refine goY rfl ?_)
      rw [w2]
      repeat' (first|refine mid_idxS (m := 1000) hl rfl rfl rfl rfl ?_|refine mid_fldH rfl rfl ?_)
      refine mid_stoS (m := 1000) (r' := [dI ((K : Nat) : Int), dS (markT (K + 1)), dI ((K + 1 + 1 : Nat) : Int), dI ((K + 1 + 1 + 1 : Nat) : Int)]) hl rfl rfl rfl rfl rfl rfl rfl ?_
      repeat' (first|refine goM rfl ?_|refine goR rfl ?_|refine goX rfl ?_|refine goY rfl ?_)
      rw [w3]
      rw [wsucc (show n < 9223372036854775807 by omega)]
      refine run_backF rfl ?_
      have he : K + 1 + 1 + 1 + 1 = K + stStp xs[n] := by simp only [stStp] <;> omega
      rw [he]
      exact ih _ (by omega)
    · have e : n = xs.length := by omega
      subst e
      rw [mkPre_end, List.take_length]
      repeat' (first|refine goM rfl ?_|refine goR rfl ?_|refine goX rfl ?_|refine goY rfl ?_)
      exact .ret (hend _ bs rfl rfl)
def mkInt (_ : Int) (k : Nat) : Int := (k : Nat)
theorem markIntS_ok (xs : List Int) (k0 : Nat) (hs : smIntS xs) (hk0 : k0 + tot stInt xs ≤ 4294967296) :
    CallsH PP F_laws_markIntS [hInt xs] [hInt (mkAll mkInt stInt xs k0)] (fun u => [.v (.val (u 0)), .v (.int .i64 k0)]) (fun _ => [.v (.int .i64 ((k0 + tot stInt xs : Nat) : Int))]) := by
  obtain ⟨hlen, hall⟩ := hs
  refine SQ_laws_markIntS [1000] [1000] (fun _ => rfl) (fun _ => ⟨Nat.le_of_ble_eq_true rfl, by simp⟩) (by simp) (by simp) (fun u Q hQ => ?_)
  obtain ⟨uv, ub⟩ := u
  have hend : ∀ (E : Env) (bs : List Nat), resP E [.tmp 4] = some [.v (.int .i64 ((k0 + tot stInt xs : Nat) : Int))] → get E 1000 = .heap false (uv 0) bs T_int 1 8 ((mkAll mkInt stInt xs k0).map rI) → Q E := fun E bs h1 h2 => hQ E ⟨(uv, fun _ => bs), h1, by simp, h2, trivial⟩
  clear hQ
  have key : ∀ n : Nat, ∀ bs, n ≤ xs.length → L_laws_markIntS_0 PP Q
      [(0, .v (.val (uv 0))), (1, .v (.int .i64 ((k0 + tot stInt (xs.take n) : Nat) : Int))), (5, .v (.int .i64 n)), (1000, .heap false (uv 0) bs T_int 1 8 ((mkPre mkInt stInt xs k0 n).map rI)), (1001, .undef), (1002, .undef), (1003, .undef), (1004, .undef), (1005, .undef), (1006, .undef), (1007, .undef), (1008, .undef), (1009, .undef)] := up xs.length (fun n ih bs hn => ?_)
  · repeat' (first|refine goM rfl ?_|refine goR rfl ?_|refine goX rfl ?_|refine goY rfl ?_)
    refine run_loopF rfl ?_
    have := key 0 (ub 0) (Nat.zero_le _)
    rw [mkPre_zero] at this
    exact this
  · repeat' (first|refine mid_lenH (m := 1000) rfl rfl rfl ?_|refine goM rfl ?_|refine goR rfl ?_|refine goX rfl ?_|refine goY rfl ?_)
    rw [List.length_map, mkPre_len _ _ _ _ hn]
    refine run_cnd_lt rfl (fun hk => ?_) (fun hk => ?_)
    · have ih := ih hk
      rw [← mkPre_mapSet mkInt stInt rI xs k0 hk, tot_take stInt xs hk, ← Nat.add_assoc] at ih
      rw [← mkPre_mapSelf mkInt stInt rI xs k0 hk]
      have hb := tot_take_le stInt xs hk
      have hl : n < ((mkPre mkInt stInt xs k0 n).map rI).length := by rw [List.length_map, mkPre_len _ _ _ _ hn]; exact hk
      have hb2 : k0 + tot stInt (xs.take n) + stInt xs[n] ≤ 4294967296 := by omega
      clear hb hn
      generalize k0 + tot stInt (xs.take n) = K at ih hb2 ⊢
      generalize (mkPre mkInt stInt xs k0 n).map rI = es at ih hl ⊢
      simp only [stInt] at hb2
      have w0 : IntKind.i64.wrap (((K : Nat) : Int) + 1) = ((K + 1 : Nat) : Int) := wsucc (by omega)
      repeat' (first|refine mid_idxS (m := 1000) hl rfl rfl rfl rfl ?_|refine goM rfl ?_|refine goR rfl ?_|refine goX rfl ?_)
      refine mid_stoS (m := 1000) (r' := [dI ((K : Nat) : Int)]) hl rfl rfl rfl rfl rfl rfl rfl ?_
      repeat' (first|refine goM rfl ?_|refine goR rfl ?_|refine goX rfl ?_|refine goY rfl ?_)
      rw [w0]
      rw [wsucc (show n < 9223372036854775807 by omega)]
      refine run_backF rfl ?_
      have he : K + 1 = K + stInt xs[n] := by simp only [stInt] <;> omega
      rw [he]
      exact ih _ (by omega)
    · have e : n = xs.length := by omega
      subst e
      rw [mkPre_end, List.take_length]
      repeat' (first|refine goM rfl ?_|refine goR rfl ?_|refine goX rfl ?_|refine goY rfl ?_)
      exact .ret (hend _ bs rfl rfl)
noncomputable def mkLis (_ : Lis) (k : Nat) : Lis := ⟨markT k, (k + 1 : Nat), (k + 1 + 1 : Nat), (k + 1 + 1 + 1 : Nat)⟩
theorem markListedS_ok (xs : List Lis) (k0 : Nat) (hs : smListedS xs) (hk0 : k0 + tot stLis xs ≤ 4294967296) :
    CallsH PP F_laws_markListedS [hLis xs] [hLis (mkAll mkLis stLis xs k0)] (fun u => [.v (.val (u 0)), .v (.int .i64 k0)]) (fun _ => [.v (.int .i64 ((k0 + tot stLis xs : Nat) : Int))]) := by
  obtain ⟨hlen, hall⟩ := hs
  refine SQ_laws_markListedS [1000] [1000] (fun _ => rfl) (fun _ => ⟨Nat.le_of_ble_eq_true rfl, by simp⟩) (by simp) (by simp) (fun u Q hQ => ?_)
  obtain ⟨uv, ub⟩ := u
  have hend : ∀ (E : Env) (bs : List Nat), resP E [.tmp 4] = some [.v (.int .i64 ((k0 + tot stLis xs : Nat) : Int))] → get E 1000 = .heap false (uv 0) bs T_impl_Listed 4 40 ((mkAll mkLis stLis xs k0).map rLis) → Q E := fun E bs h1 h2 => hQ E ⟨(uv, fun _ => bs), h1, by simp, h2, trivial⟩
  clear hQ
  have key : ∀ n : Nat, ∀ bs, n ≤ xs.length → L_laws_markListedS_0 PP Q
      [(0, .v (.val (uv 0))), (1, .v (.int .i64 ((k0 + tot stLis (xs.take n) : Nat) : Int))), (5, .v (.int .i64 n)), (1000, .heap false (uv 0) bs T_impl_Listed 4 40 ((mkPre mkLis stLis xs k0 n).map rLis)), (1001, .undef), (1002, .undef), (1003, .undef), (1004, .undef), (1005, .undef), (1006, .undef), (1007, .undef), (1008, .undef), (1009, .undef)] := up xs.length (fun n ih bs hn => ?_)
  · repeat' (first|refine goM rfl ?_|refine goR rfl ?_|refine goX rfl ?_|refine goY rfl ?_)
    refine run_loopF rfl ?_
    have := key 0 (ub 0) (Nat.zero_le _)
    rw [mkPre_zero] at this
    exact this
  · repeat' (first|refine mid_lenH (m := 1000) rfl rfl rfl ?_|refine goM rfl ?_|refine goR rfl ?_|refine goX rfl ?_|refine goY rfl ?_)
    rw [List.length_map, mkPre_len _ _ _ _ hn]
    refine run_cnd_lt rfl (fun hk => ?_) (fun hk => ?_)
    · have ih := ih hk
      rw [← mkPre_mapSet mkLis stLis rLis xs k0 hk, tot_take stLis xs hk, ← Nat.add_assoc] at ih
      rw [← mkPre_mapSelf mkLis stLis rLis xs k0 hk]
      have hb := tot_take_le stLis xs hk
      have hl : n < ((mkPre mkLis stLis xs k0 n).map rLis).length := by rw [List.length_map, mkPre_len _ _ _ _ hn]; exact hk
      have hb2 : k0 + tot stLis (xs.take n) + stLis xs[n] ≤ 4294967296 := by omega
      clear hb hn
      generalize k0 + tot stLis (xs.take n) = K at ih hb2 ⊢
      generalize (mkPre mkLis stLis xs k0 n).map rLis = es at ih hl ⊢
      simp only [stLis] at hb2
      have w0 : IntKind.i64.wrap (((K : Nat) : Int) + 1) = ((K + 1 : Nat) : Int) := wsucc (by omega)
      have w1 : IntKind.i64.wrap (((K + 1 : Nat) : Int) + 1) = ((K + 1 + 1 : Nat) : Int) := wsucc (by omega)
      have w2 : IntKind.i64.wrap (((K + 1 + 1 : Nat) : Int) + 1) = ((K + 1 + 1 + 1 : Nat) : Int) := wsucc (by omega)
      have w3 : IntKind.i64.wrap (((K + 1 + 1 + 1 : Nat) : Int) + 1) = ((K + 1 + 1 + 1 + 1 : Nat) : Int) := wsucc (by omega)
      repeat' (first|refine mid_idxS (m := 1000) hl rfl rfl rfl rfl ?_|refine mid_fldH rfl rfl ?_|refine goM rfl ?_|refine goR rfl ?_|refine goX rfl ?_|refine goC (markText_ok (K) (by omega)) rfl rfl rfl rfl ?_)
      refine mid_stoS (m := 1000) (r' := [dS (markT (K)), dI xs[n].frm, dI xs[n].til, dI xs[n].score]) hl rfl rfl rfl rfl rfl rfl rfl ?_
      repeat' (first|refine goM rfl ?_|refine goR rfl ?_|refine goX rfl ?_|refine goY rfl ?_)
      rw [w0]
      repeat' (first|refine mid_idxS (m := 1000) hl rfl rfl rfl rfl ?_|refine mid_fldH rfl rfl ?_)
      refine mid_stoS (m := 1000) (r' := [dS (markT (K)), dI ((K + 1 : Nat) : Int), dI xs[n].til, dI xs[n].score]) hl rfl rfl rfl rfl rfl rfl rfl ?_
      repeat' (first|refine goM rfl ?_|refine goR rfl ?_|refine goX rfl ?_|refine goY rfl ?_)
      rw [w1]
      repeat' (first|refine mid_idxS (m := 1000) hl rfl rfl rfl rfl ?_|refine mid_fldH rfl rfl ?_)
      refine mid_stoS (m := 1000) (r' := [dS (markT (K)), dI ((K + 1 : Nat) : Int), dI ((K + 1 + 1 : Nat) : Int), dI xs[n].score]) hl rfl rfl rfl rfl rfl rfl rfl ?_
      repeat' (first|refine goM rfl ?_|refine goR rfl ?_|refine goX rfl ?_|refine goY rfl ?_)
      rw [w2]
      repeat' (first|refine mid_idxS (m := 1000) hl rfl rfl rfl rfl ?_|refine mid_fldH rfl rfl ?_)
      refine mid_stoS (m := 1000) (r' := [dS (markT (K)), dI ((K + 1 : Nat) : Int), dI ((K + 1 + 1 : Nat) : Int), dI ((K + 1 + 1 + 1 : Nat) : Int)]) hl rfl rfl rfl rfl rfl rfl rfl ?_
      repeat' (first|refine goM rfl ?_|refine goR rfl ?_|refine goX rfl ?_|refine goY rfl ?_)
      rw [w3]
      rw [wsucc (show n < 9223372036854775807 by omega)]
      refine run_backF rfl ?_
      have he : K + 1 + 1 + 1 + 1 = K + stLis xs[n] := by simp only [stLis] <;> omega
      rw [he]
      exact ih _ (by omega)
    · have e : n = xs.length := by omega
      subst e
      rw [mkPre_end, List.take_length]
      repeat' (first|refine goM rfl ?_|refine goR rfl ?_|refine goX rfl ?_|refine goY rfl ?_)
      exact .ret (hend _ bs rfl rfl)
noncomputable def mkMea (_ : Mea) (k : Nat) : Mea := ⟨markT k, (k + 1 : Nat)⟩
theorem markMeaningS_ok (xs : List Mea) (k0 : Nat) (hs : smMeaningS xs) (hk0 : k0 + tot stMea xs ≤ 4294967296) :
    CallsH PP F_laws_markMeaningS [hMea xs] [hMea (mkAll mkMea stMea xs k0)] (fun u => [.v (.val (u 0)), .v (.int .i64 k0)]) (fun _ => [.v (.int .i64 ((k0 + tot stMea xs : Nat) : Int))]) := by
  obtain ⟨hlen, hall⟩ := hs
  refine SQ_laws_markMeaningS [1000] [1000] (fun _ => rfl) (fun _ => ⟨Nat.le_of_ble_eq_true rfl, by simp⟩) (by simp) (by simp) (fun u Q hQ => ?_)
  obtain ⟨uv, ub⟩ := u
  have hend : ∀ (E : Env) (bs : List Nat), resP E [.tmp 4] = some [.v (.int .i64 ((k0 + tot stMea xs : Nat) : Int))] → get E 1000 = .heap false (uv 0) bs T_impl_Meaning 2 24 ((mkAll mkMea stMea xs k0).map rMea) → Q E := fun E bs h1 h2 => hQ E ⟨(uv, fun _ => bs), h1, by simp, h2, trivial⟩
  clear hQ
  have key : ∀ n : Nat, ∀ bs, n ≤ xs.length → L_laws_markMeaningS_0 PP Q
      [(0, .v (.val (uv 0))), (1, .v (.int .i64 ((k0 + tot stMea (xs.take n) : Nat) : Int))), (5, .v (.int .i64 n)), (1000, .heap false (uv 0) bs T_impl_Meaning 2 24 ((mkPre mkMea stMea xs k0 n).map rMea)), (1001, .undef), (1002, .undef), (1003, .undef), (1004, .undef), (1005, .undef), (1006, .undef), (1007, .undef), (1008, .undef), (1009, .undef)] := up xs.length (fun n ih bs hn => ?_)
  · repeat' (first|refine goM rfl ?_|refine goR rfl ?_|refine goX rfl ?_|refine goY rfl ?_)
    refine run_loopF rfl ?_
    have := key 0 (ub 0) (Nat.zero_le _)
    rw [mkPre_zero] at this
    exact this
  · repeat' (first|refine mid_lenH (m := 1000) rfl rfl rfl ?_|refine goM rfl ?_|refine goR rfl ?_|refine goX rfl ?_|refine goY rfl ?_)
    rw [List.length_map, mkPre_len _ _ _ _ hn]
    refine run_cnd_lt rfl (fun hk => ?_) (fun hk => ?_)
    · have ih := ih hk
      rw [← mkPre_mapSet mkMea stMea rMea xs k0 hk, tot_take stMea xs hk, ← Nat.add_assoc] at ih
      rw [← mkPre_mapSelf mkMea stMea rMea xs k0 hk]
      have hb := tot_take_le stMea xs hk
      have hl : n < ((mkPre mkMea stMea xs k0 n).map rMea).length := by rw [List.length_map, mkPre_len _ _ _ _ hn]; exact hk
      have hb2 : k0 + tot stMea (xs.take n) + stMea xs[n] ≤ 4294967296 := by omega
      clear hb hn
      generalize k0 + tot stMea (xs.take n) = K at ih hb2 ⊢
      generalize (mkPre mkMea stMea xs k0 n).map rMea = es at ih hl ⊢
      simp only [stMea] at hb2
      have w0 : IntKind.i64.wrap (((K : Nat) : Int) + 1) = ((K + 1 : Nat) : Int) := wsucc (by omega)
      have w1 : IntKind.i64.wrap (((K + 1 : Nat) : Int) + 1) = ((K + 1 + 1 : Nat) : Int) := wsucc (by omega)
      repeat' (first|refine mid_idxS (m := 1000) hl rfl rfl rfl rfl ?_|refine mid_fldH rfl rfl ?_|refine goM rfl ?_|refine goR rfl ?_|refine goX rfl ?_|refine goC (markText_ok (K) (by omega)) rfl rfl rfl rfl ?_)
      refine mid_stoS (m := 1000) (r' := [dS (markT (K)), dI xs[n].sense]) hl rfl rfl rfl rfl rfl rfl rfl ?_
      repeat' (first|refine goM rfl ?_|refine goR rfl ?_|refine goX rfl ?_|refine goY rfl ?_)
      rw [w0]
      repeat' (first|refine mid_idxS (m := 1000) hl rfl rfl rfl rfl ?_|refine mid_fldH rfl rfl ?_)
      refine mid_stoS (m := 1000) (r' := [dS (markT (K)), dI ((K + 1 : Nat) : Int)]) hl rfl rfl rfl rfl rfl rfl rfl ?_
      repeat' (first|refine goM rfl ?_|refine goR rfl ?_|refine goX rfl ?_|refine goY rfl ?_)
      rw [w1]
      rw [wsucc (show n < 9223372036854775807 by omega)]
      refine run_backF rfl ?_
      have he : K + 1 + 1 = K + stMea xs[n] := by simp only [stMea] <;> omega
      rw [he]
      exact ih _ (by omega)
    · have e : n = xs.length := by omega
      subst e
      rw [mkPre_end, List.take_length]
      repeat' (first|refine goM rfl ?_|refine goR rfl ?_|refine goX rfl ?_|refine goY rfl ?_)
      exact .ret (hend _ bs rfl rfl)
noncomputable def mkUse (_ : Use) (k : Nat) : Use := ⟨markT k, (k + 1 : Nat)⟩
theorem markUsedS_ok (xs : List Use) (k0 : Nat) (hs : smUsedS xs) (hk0 : k0 + tot stUse xs ≤ 4294967296) :
    CallsH PP F_laws_markUsedS [hUse xs] [hUse (mkAll mkUse stUse xs k0)] (fun u => [.v (.val (u 0)), .v (.int .i64 k0)]) (fun _ => [.v (.int .i64 ((k0 + tot stUse xs : Nat) : Int))]) := by
  obtain ⟨hlen, hall⟩ := hs
  refine SQ_laws_markUsedS [1000] [1000] (fun _ => rfl) (fun _ => ⟨Nat.le_of_ble_eq_true rfl, by simp⟩) (by simp) (by simp) (fun u Q hQ => ?_)
  obtain ⟨uv, ub⟩ := u
  have hend : ∀ (E : Env) (bs : List Nat), resP E [.tmp 4] = some [.v (.int .i64 ((k0 + tot stUse xs : Nat) : Int))] → get E 1000 = .heap false (uv 0) bs T_impl_Used 2 24 ((mkAll mkUse stUse xs k0).map rUse) → Q E := fun E bs h1 h2 => hQ E ⟨(uv, fun _ => bs), h1, by simp, h2, trivial⟩
  clear hQ
  have key : ∀ n : Nat, ∀ bs, n ≤ xs.length → L_laws_markUsedS_0 PP Q
      [(0, .v (.val (uv 0))), (1, .v (.int .i64 ((k0 + tot stUse (xs.take n) : Nat) : Int))), (5, .v (.int .i64 n)), (1000, .heap false (uv 0) bs T_impl_Used 2 24 ((mkPre mkUse stUse xs k0 n).map rUse)), (1001, .undef), (1002, .undef), (1003, .undef), (1004, .undef), (1005, .undef), (1006, .undef), (1007, .undef), (1008, .undef), (1009, .undef)] := up xs.length (fun n ih bs hn => ?_)
  · repeat' (first|refine goM rfl ?_|refine goR rfl ?_|refine goX rfl ?_|refine goY rfl ?_)
    refine run_loopF rfl ?_
    have := key 0 (ub 0) (Nat.zero_le _)
    rw [mkPre_zero] at this
    exact this
  · repeat' (first|refine mid_lenH (m := 1000) rfl rfl rfl ?_|refine goM rfl ?_|refine goR rfl ?_|refine goX rfl ?_|refine goY rfl ?_)
    rw [List.length_map, mkPre_len _ _ _ _ hn]
    refine run_cnd_lt rfl (fun hk => ?_) (fun hk => ?_)
    · have ih := ih hk
      rw [← mkPre_mapSet mkUse stUse rUse xs k0 hk, tot_take stUse xs hk, ← Nat.add_assoc] at ih
      rw [← mkPre_mapSelf mkUse stUse rUse xs k0 hk]
      have hb := tot_take_le stUse xs hk
      have hl : n < ((mkPre mkUse stUse xs k0 n).map rUse).length := by rw [List.length_map, mkPre_len _ _ _ _ hn]; exact hk
      have hb2 : k0 + tot stUse (xs.take n) + stUse xs[n] ≤ 4294967296 := by omega
      clear hb hn
      generalize k0 + tot stUse (xs.take n) = K at ih hb2 ⊢
      generalize (mkPre mkUse stUse xs k0 n).map rUse = es at ih hl ⊢
      simp only [stUse] at hb2
      have w0 : IntKind.i64.wrap (((K : Nat) : Int) + 1) = ((K + 1 : Nat) : Int) := wsucc (by omega)
      have w1 : IntKind.i64.wrap (((K + 1 : Nat) : Int) + 1) = ((K + 1 + 1 : Nat) : Int) := wsucc (by omega)
      repeat' (first|refine mid_idxS (m := 1000) hl rfl rfl rfl rfl ?_|refine mid_fldH rfl rfl ?_|refine goM rfl ?_|refine goR rfl ?_|refine goX rfl ?_|refine goC (markText_ok (K) (by omega)) rfl rfl rfl rfl ?_)
      refine mid_stoS (m := 1000) (r' := [dS (markT (K)), dI xs[n].issue]) hl rfl rfl rfl rfl rfl rfl rfl ?_
      repeat' (first|refine goM rfl ?_|refine goR rfl ?_|refine goX rfl ?_|refine goY rfl ?_)
      rw [w0]
      repeat' (first|refine mid_idxS (m := 1000) hl rfl rfl rfl rfl ?_|refine mid_fldH rfl rfl ?_)
      refine mid_stoS (m := 1000) (r' := [dS (markT (K)), dI ((K + 1 : Nat) : Int)]) hl rfl rfl rfl rfl rfl rfl rfl ?_
      repeat' (first|refine goM rfl ?_|refine goR rfl ?_|refine goX rfl ?_|refine goY rfl ?_)
      rw [w1]
      rw [wsucc (show n < 9223372036854775807 by omega)]
      refine run_backF rfl ?_
      have he : K + 1 + 1 = K + stUse xs[n] := by simp only [stUse] <;> omega
      rw [he]
      exact ih _ (by omega)
    · have e : n = xs.length := by omega
      subst e
      rw [mkPre_end, List.take_length]
      repeat' (first|refine goM rfl ?_|refine goR rfl ?_|refine goX rfl ?_|refine goY rfl ?_)
      exact .ret (hend _ bs rfl rfl)
noncomputable def mkEnt (_ : Ent) (k : Nat) : Ent := ⟨(k : Nat), (k + 1 : Nat), (k + 1 + 1 : Nat), markT (k + 1 + 1 + 1)⟩
theorem markEntryS_ok (xs : List Ent) (k0 : Nat) (hs : smEntryS xs) (hk0 : k0 + tot stEnt xs ≤ 4294967296) :
    CallsH PP F_laws_markEntryS [hEnt xs] [hEnt (mkAll mkEnt stEnt xs k0)] (fun u => [.v (.val (u 0)), .v (.int .i64 k0)]) (fun _ => [.v (.int .i64 ((k0 + tot stEnt xs : Nat) : Int))]) := by
  obtain ⟨hlen, hall⟩ := hs
  refine SQ_laws_markEntryS [1000] [1000] (fun _ => rfl) (fun _ => ⟨Nat.le_of_ble_eq_true rfl, by simp⟩) (by simp) (by simp) (fun u Q hQ => ?_)
  obtain ⟨uv, ub⟩ := u
  have hend : ∀ (E : Env) (bs : List Nat), resP E [.tmp 4] = some [.v (.int .i64 ((k0 + tot stEnt xs : Nat) : Int))] → get E 1000 = .heap false (uv 0) bs T_impl_Entry 4 40 ((mkAll mkEnt stEnt xs k0).map rEnt) → Q E := fun E bs h1 h2 => hQ E ⟨(uv, fun _ => bs), h1, by simp, h2, trivial⟩
  clear hQ
  have key : ∀ n : Nat, ∀ bs, n ≤ xs.length → L_laws_markEntryS_0 PP Q
      [(0, .v (.val (uv 0))), (1, .v (.int .i64 ((k0 + tot stEnt (xs.take n) : Nat) : Int))), (5, .v (.int .i64 n)), (1000, .heap false (uv 0) bs T_impl_Entry 4 40 ((mkPre mkEnt stEnt xs k0 n).map rEnt)), (1001, .undef), (1002, .undef), (1003, .undef), (1004, .undef), (1005, .undef), (1006, .undef), (1007, .undef), (1008, .undef), (1009, .undef)] := up xs.length (fun n ih bs hn => ?_)
  · repeat' (first|refine goM rfl ?_|refine goR rfl ?_|refine goX rfl ?_|refine goY rfl ?_)
    refine run_loopF rfl ?_
    have := key 0 (ub 0) (Nat.zero_le _)
    rw [mkPre_zero] at this
    exact this
  · repeat' (first|refine mid_lenH (m := 1000) rfl rfl rfl ?_|refine goM rfl ?_|refine goR rfl ?_|refine goX rfl ?_|refine goY rfl ?_)
    rw [List.length_map, mkPre_len _ _ _ _ hn]
    refine run_cnd_lt rfl (fun hk => ?_) (fun hk => ?_)
    · have ih := ih hk
      rw [← mkPre_mapSet mkEnt stEnt rEnt xs k0 hk, tot_take stEnt xs hk, ← Nat.add_assoc] at ih
      rw [← mkPre_mapSelf mkEnt stEnt rEnt xs k0 hk]
      have hb := tot_take_le stEnt xs hk
      have hl : n < ((mkPre mkEnt stEnt xs k0 n).map rEnt).length := by rw [List.length_map, mkPre_len _ _ _ _ hn]; exact hk
      have hb2 : k0 + tot stEnt (xs.take n) + stEnt xs[n] ≤ 4294967296 := by omega
      clear hb hn
      generalize k0 + tot stEnt (xs.take n) = K at ih hb2 ⊢
      generalize (mkPre mkEnt stEnt xs k0 n).map rEnt = es at ih hl ⊢
      simp only [stEnt] at hb2
      have w0 : IntKind.i64.wrap (((K : Nat) : Int) + 1) = ((K + 1 : Nat) : Int) := wsucc (by omega)
      have w1 : IntKind.i64.wrap (((K + 1 : Nat) : Int) + 1) = ((K + 1 + 1 : Nat) : Int) := wsucc (by omega)
      have w2 : IntKind.i64.wrap (((K + 1 + 1 : Nat) : Int) + 1) = ((K + 1 + 1 + 1 : Nat) : Int) := wsucc (by omega)
      have w3 : IntKind.i64.wrap (((K + 1 + 1 + 1 : Nat) : Int) + 1) = ((K + 1 + 1 + 1 + 1 : Nat) : Int) := wsucc (by omega)
      repeat' (first|refine mid_idxS (m := 1000) hl rfl rfl rfl rfl ?_|refine mid_fldH rfl rfl ?_|refine goM rfl ?_|refine goR rfl ?_|refine goX rfl ?_)
      refine mid_stoS (m := 1000) (r' := [dI ((K : Nat) : Int), dI xs[n].issue, dI xs[n].tick, dS xs[n].fill]) hl rfl rfl rfl rfl rfl rfl rfl ?_
      repeat' (first|refine goM rfl ?_|refine goR rfl ?_|refine goX rfl ?_|refine goY rfl ?_)
      rw [w0]
      repeat' (first|refine mid_idxS (m := 1000) hl rfl rfl rfl rfl ?_|refine mid_fldH rfl rfl ?_)
      refine mid_stoS (m := 1000) (r' := [dI ((K : Nat) : Int), dI ((K + 1 : Nat) : Int), dI xs[n].tick, dS xs[n].fill]) hl rfl rfl rfl rfl rfl rfl rfl ?_
      repeat' (first|refine goM rfl ?_|refine goR rfl ?_|refine goX rfl ?_|refine goY rfl ?_)
      rw [w1]
      repeat' (first|refine mid_idxS (m := 1000) hl rfl rfl rfl rfl ?_|refine mid_fldH rfl rfl ?_)
      refine mid_stoS (m := 1000) (r' := [dI ((K : Nat) : Int), dI ((K + 1 : Nat) : Int), dI ((K + 1 + 1 : Nat) : Int), dS xs[n].fill]) hl rfl rfl rfl rfl rfl rfl rfl ?_
      repeat' (first|refine goM rfl ?_|refine goR rfl ?_|refine goX rfl ?_|refine goY rfl ?_)
      rw [w2]
      repeat' (first|refine mid_idxS (m := 1000) hl rfl rfl rfl rfl ?_|refine mid_fldH rfl rfl ?_|refine goC (markText_ok (K + 1 + 1 + 1) (by omega)) rfl rfl rfl rfl ?_)
      refine mid_stoS (m := 1000) (r' := [dI ((K : Nat) : Int), dI ((K + 1 : Nat) : Int), dI ((K + 1 + 1 : Nat) : Int), dS (markT (K + 1 + 1 + 1))]) hl rfl rfl rfl rfl rfl rfl rfl ?_
      repeat' (first|refine goM rfl ?_|refine goR rfl ?_|refine goX rfl ?_|refine goY rfl ?_)
      rw [w3]
      rw [wsucc (show n < 9223372036854775807 by omega)]
      refine run_backF rfl ?_
      have he : K + 1 + 1 + 1 + 1 = K + stEnt xs[n] := by simp only [stEnt] <;> omega
      rw [he]
      exact ih _ (by omega)
    · have e : n = xs.length := by omega
      subst e
      rw [mkPre_end, List.take_length]
      repeat' (first|refine goM rfl ?_|refine goR rfl ?_|refine goX rfl ?_|refine goY rfl ?_)
      exact .ret (hend _ bs rfl rfl)
noncomputable def mkClu (x : Clu) (k : Nat) : Clu := ⟨(k : Nat), mkAll mkStp stStp x.play (k + 1)⟩
theorem markClueS_ok (xs : List Clu) (k0 : Nat) (hs : smClueS xs) (hk0 : k0 + tot stClu xs ≤ 4294967296) :
    CallsH PP F_laws_markClueS [hClu xs] [hClu (mkAll mkClu stClu xs k0)] (fun u => [.v (.val (u 0)), .v (.int .i64 k0)]) (fun _ => [.v (.int .i64 ((k0 + tot stClu xs : Nat) : Int))]) := by
  obtain ⟨hlen, hall⟩ := hs
  refine SQ_laws_markClueS [1000] [1000] (fun _ => rfl) (fun _ => ⟨Nat.le_of_ble_eq_true rfl, by simp⟩) (by simp) (by simp) (fun u Q hQ => ?_)
  obtain ⟨uv, ub⟩ := u
  have hend : ∀ (E : Env) (bs : List Nat), resP E [.tmp 4] = some [.v (.int .i64 ((k0 + tot stClu xs : Nat) : Int))] → get E 1000 = .heap false (uv 0) bs T_impl_Clue 2 32 ((mkAll mkClu stClu xs k0).map oClu) → Q E := fun E bs h1 h2 => hQ E ⟨(uv, fun _ => bs), h1, by simp, h2, trivial⟩
  clear hQ
  have key : ∀ n : Nat, ∀ bs, n ≤ xs.length → L_laws_markClueS_0 PP Q
      [(0, .v (.val (uv 0))), (1, .v (.int .i64 ((k0 + tot stClu (xs.take n) : Nat) : Int))), (5, .v (.int .i64 n)), (1000, .heap false (uv 0) bs T_impl_Clue 2 32 ((mkPre mkClu stClu xs k0 n).map oClu)), (1001, .undef), (1002, .undef), (1003, .undef), (1004, .undef), (1005, .undef), (1006, .undef), (1007, .undef), (1008, .undef), (1009, .undef)] := up xs.length (fun n ih bs hn => ?_)
  · repeat' (first|refine goM rfl ?_|refine goR rfl ?_|refine goX rfl ?_|refine goY rfl ?_)
    refine run_loopF rfl ?_
    have := key 0 (ub 0) (Nat.zero_le _)
    rw [mkPre_zero] at this
    exact this
  · repeat' (first|refine mid_lenH (m := 1000) rfl rfl rfl ?_|refine goM rfl ?_|refine goR rfl ?_|refine goX rfl ?_|refine goY rfl ?_)
    rw [List.length_map, mkPre_len _ _ _ _ hn]
    refine run_cnd_lt rfl (fun hk => ?_) (fun hk => ?_)
    · have ih := ih hk
      rw [← mkPre_mapSet mkClu stClu oClu xs k0 hk, tot_take stClu xs hk, ← Nat.add_assoc] at ih
      rw [← mkPre_mapSelf mkClu stClu oClu xs k0 hk]
      have hb := tot_take_le stClu xs hk
      have hl : n < ((mkPre mkClu stClu xs k0 n).map oClu).length := by rw [List.length_map, mkPre_len _ _ _ _ hn]; exact hk
      have hb2 : k0 + tot stClu (xs.take n) + stClu xs[n] ≤ 4294967296 := by omega
      clear hb hn
      generalize k0 + tot stClu (xs.take n) = K at ih hb2 ⊢
      generalize (mkPre mkClu stClu xs k0 n).map oClu = es at ih hl ⊢
      simp only [stClu] at hb2
      have w0 : IntKind.i64.wrap (((K : Nat) : Int) + 1) = ((K + 1 : Nat) : Int) := wsucc (by omega)
      repeat' (first|refine mid_idxS (m := 1000) hl rfl rfl rfl rfl ?_|refine mid_fldH rfl rfl ?_|refine goM rfl ?_|refine goR rfl ?_|refine goX rfl ?_)
      refine mid_stoS (m := 1000) (r' := [dI ((K : Nat) : Int), .own T_impl_Step 4 40 (xs[n].play.map rStp)]) hl rfl rfl rfl rfl rfl rfl rfl ?_
      repeat' (first|refine goM rfl ?_|refine goR rfl ?_|refine goX rfl ?_|refine goY rfl ?_)
      rw [w0]
      repeat' (first|refine mid_idxS (m := 1000) hl rfl rfl rfl rfl ?_|refine mid_fldH rfl rfl ?_)
      refine mid_openS (m := 1000) (o := 1) 1001 hl rfl rfl rfl (fun w1 bs1 cs1 => ?_)
      repeat' (first|refine mid_ldS (m := 1000) hl rfl rfl rfl rfl rfl ?_|refine goM rfl ?_)
      refine mid_callH1t (m0 := 1001) (args := fun v => [.v (.val v), .v (.int .i64 ((K + 1 : Nat) : Int))]) (markStepS_ok xs[n].play (K + 1) (hall _ (List.getElem_mem hk)) (by omega)) rfl (by decide) rfl rfl rfl rfl rfl (by decide) (fun ds1 => ?_)
      refine mid_closeS (m := 1000) (o := 1) (r' := [dI ((K : Nat) : Int), .own T_impl_Step 4 40 ((mkAll mkStp stStp xs[n].play (K + 1)).map rStp)]) 1001 hl rfl rfl rfl (by decide) (fun h => h) rfl (fun es1 => ?_)
      repeat' (first|refine goM rfl ?_|refine goR rfl ?_|refine goX rfl ?_|refine goY rfl ?_)
      rw [wsucc (show n < 9223372036854775807 by omega)]
      refine run_backF rfl ?_
      have he : K + 1 + tot stStp xs[n].play = K + stClu xs[n] := by simp only [stClu] <;> omega
      rw [he]
      exact ih _ (by omega)
    · have e : n = xs.length := by omega
      subst e
      rw [mkPre_end, List.take_length]
      repeat' (first|refine goM rfl ?_|refine goR rfl ?_|refine goX rfl ?_|refine goY rfl ?_)
      exact .ret (hend _ bs rfl rfl)
noncomputable def mkCor (x : Cor) (k : Nat) : Cor := ⟨(k : Nat), (k + 1 : Nat), ⟨(k + 1 + 1 : Nat), mkAll mkStp stStp x.clue.play (k + 1 + 1 + 1)⟩, (k + 1 + 1 + 1 + tot stStp x.clue.play : Nat)⟩
theorem markCorrectionS_ok (xs : List Cor) (k0 : Nat) (hs : smCorrectionS xs) (hk0 : k0 + tot stCor xs ≤ 4294967296) :
    CallsH PP F_laws_markCorrectionS [hCor xs] [hCor (mkAll mkCor stCor xs k0)] (fun u => [.v (.val (u 0)), .v (.int .i64 k0)]) (fun _ => [.v (.int .i64 ((k0 + tot stCor xs : Nat) : Int))]) := by
  obtain ⟨hlen, hall⟩ := hs
  refine SQ_laws_markCorrectionS [1000] [1000] (fun _ => rfl) (fun _ => ⟨Nat.le_of_ble_eq_true rfl, by simp⟩) (by simp) (by simp) (fun u Q hQ => ?_)
  obtain ⟨uv, ub⟩ := u
  have hend : ∀ (E : Env) (bs : List Nat), resP E [.tmp 4] = some [.v (.int .i64 ((k0 + tot stCor xs : Nat) : Int))] → get E 1000 = .heap false (uv 0) bs T_impl_Correction 5 56 ((mkAll mkCor stCor xs k0).map oCor) → Q E := fun E bs h1 h2 => hQ E ⟨(uv, fun _ => bs), h1, by simp, h2, trivial⟩
  clear hQ
  have key : ∀ n : Nat, ∀ bs, n ≤ xs.length → L_laws_markCorrectionS_0 PP Q
      [(0, .v (.val (uv 0))), (1, .v (.int .i64 ((k0 + tot stCor (xs.take n) : Nat) : Int))), (5, .v (.int .i64 n)), (1000, .heap false (uv 0) bs T_impl_Correction 5 56 ((mkPre mkCor stCor xs k0 n).map oCor)), (1001, .undef), (1002, .undef), (1003, .undef), (1004, .undef), (1005, .undef), (1006, .undef), (1007, .undef), (1008, .undef), (1009, .undef)] := up xs.length (fun n ih bs hn => ?_)
  · repeat' (first|refine goM rfl ?_|refine goR rfl ?_|refine goX rfl ?_|refine goY rfl ?_)
    refine run_loopF rfl ?_
    have := key 0 (ub 0) (Nat.zero_le _)
    rw [mkPre_zero] at this
    exact this
  · repeat' (first|refine mid_lenH (m := 1000) rfl rfl rfl ?_|refine goM rfl ?_|refine goR rfl ?_|refine goX rfl ?_|refine goY rfl ?_)
    rw [List.length_map, mkPre_len _ _ _ _ hn]
    refine run_cnd_lt rfl (fun hk => ?_) (fun hk => ?_)
    · have ih := ih hk
      rw [← mkPre_mapSet mkCor stCor oCor xs k0 hk, tot_take stCor xs hk, ← Nat.add_assoc] at ih
      rw [← mkPre_mapSelf mkCor stCor oCor xs k0 hk]
      have hb := tot_take_le stCor xs hk
      have hl : n < ((mkPre mkCor stCor xs k0 n).map oCor).length := by rw [List.length_map, mkPre_len _ _ _ _ hn]; exact hk
      have hb2 : k0 + tot stCor (xs.take n) + stCor xs[n] ≤ 4294967296 := by omega
      clear hb hn
      generalize k0 + tot stCor (xs.take n) = K at ih hb2 ⊢
      generalize (mkPre mkCor stCor xs k0 n).map oCor = es at ih hl ⊢
      simp only [stCor] at hb2
      have w0 : IntKind.i64.wrap (((K : Nat) : Int) + 1) = ((K + 1 : Nat) : Int) := wsucc (by omega)
      have w1 : IntKind.i64.wrap (((K + 1 : Nat) : Int) + 1) = ((K + 1 + 1 : Nat) : Int) := wsucc (by omega)
      have w2 : IntKind.i64.wrap (((K + 1 + 1 : Nat) : Int) + 1) = ((K + 1 + 1 + 1 : Nat) : Int) := wsucc (by omega)
      have w4 : IntKind.i64.wrap (((K + 1 + 1 + 1 + tot stStp xs[n].clue.play : Nat) : Int) + 1) = ((K + 1 + 1 + 1 + tot stStp xs[n].clue.play + 1 : Nat) : Int) := wsucc (by omega)
      repeat' (first|refine mid_idxS (m := 1000) hl rfl rfl rfl rfl ?_|refine mid_fldH rfl rfl ?_|refine goM rfl ?_|refine goR rfl ?_|refine goX rfl ?_)
      refine mid_stoS (m := 1000) (r' := [dI ((K : Nat) : Int), dI xs[n].slot, dI xs[n].clue.sense, .own T_impl_Step 4 40 (xs[n].clue.play.map rStp), dI xs[n].tick]) hl rfl rfl rfl rfl rfl rfl rfl ?_
      repeat' (first|refine goM rfl ?_|refine goR rfl ?_|refine goX rfl ?_|refine goY rfl ?_)
      rw [w0]
      repeat' (first|refine mid_idxS (m := 1000) hl rfl rfl rfl rfl ?_|refine mid_fldH rfl rfl ?_)
      refine mid_stoS (m := 1000) (r' := [dI ((K : Nat) : Int), dI ((K + 1 : Nat) : Int), dI xs[n].clue.sense, .own T_impl_Step 4 40 (xs[n].clue.play.map rStp), dI xs[n].tick]) hl rfl rfl rfl rfl rfl rfl rfl ?_
      repeat' (first|refine goM rfl ?_|refine goR rfl ?_|refine goX rfl ?_|refine goY rfl ?_)
      rw [w1]
      repeat' (first|refine mid_idxS (m := 1000) hl rfl rfl rfl rfl ?_|refine mid_fldH rfl rfl ?_)
      refine mid_stoS (m := 1000) (r' := [dI ((K : Nat) : Int), dI ((K + 1 : Nat) : Int), dI ((K + 1 + 1 : Nat) : Int), .own T_impl_Step 4 40 (xs[n].clue.play.map rStp), dI xs[n].tick]) hl rfl rfl rfl rfl rfl rfl rfl ?_
      repeat' (first|refine goM rfl ?_|refine goR rfl ?_|refine goX rfl ?_|refine goY rfl ?_)
      rw [w2]
      repeat' (first|refine mid_idxS (m := 1000) hl rfl rfl rfl rfl ?_|refine mid_fldH rfl rfl ?_)
      refine mid_openS (m := 1000) (o := 3) 1001 hl rfl rfl rfl (fun w3 bs3 cs3 => ?_)
      repeat' (first|refine mid_ldS (m := 1000) hl rfl rfl rfl rfl rfl ?_|refine goM rfl ?_)
      refine mid_callH1t (m0 := 1001) (args := fun v => [.v (.val v), .v (.int .i64 ((K + 1 + 1 + 1 : Nat) : Int))]) (markStepS_ok xs[n].clue.play (K + 1 + 1 + 1) (hall _ (List.getElem_mem hk)) (by omega)) rfl (by decide) rfl rfl rfl rfl rfl (by decide) (fun ds3 => ?_)
      refine mid_closeS (m := 1000) (o := 3) (r' := [dI ((K : Nat) : Int), dI ((K + 1 : Nat) : Int), dI ((K + 1 + 1 : Nat) : Int), .own T_impl_Step 4 40 ((mkAll mkStp stStp xs[n].clue.play (K + 1 + 1 + 1)).map rStp), dI xs[n].tick]) 1001 hl rfl rfl rfl (by decide) (fun h => h) rfl (fun es3 => ?_)
      repeat' (first|refine goM rfl ?_|refine goR rfl ?_|refine goX rfl ?_|refine goY rfl ?_)
      repeat' (first|refine mid_idxS (m := 1000) hl rfl rfl rfl rfl ?_|refine mid_fldH rfl rfl ?_)
      refine mid_stoS (m := 1000) (r' := [dI ((K : Nat) : Int), dI ((K + 1 : Nat) : Int), dI ((K + 1 + 1 : Nat) : Int), .own T_impl_Step 4 40 ((mkAll mkStp stStp xs[n].clue.play (K + 1 + 1 + 1)).map rStp), dI ((K + 1 + 1 + 1 + tot stStp xs[n].clue.play : Nat) : Int)]) hl rfl rfl rfl rfl rfl rfl rfl ?_
      repeat' (first|refine goM rfl ?_|refine goR rfl ?_|refine goX rfl ?_|refine goY rfl ?_)
      rw [w4]
      rw [wsucc (show n < 9223372036854775807 by omega)]
      refine run_backF rfl ?_
      have he : K + 1 + 1 + 1 + tot stStp xs[n].clue.play + 1 = K + stCor xs[n] := by simp only [stCor] <;> omega
      rw [he]
      exact ih _ (by omega)
    · have e : n = xs.length := by omega
      subst e
      rw [mkPre_end, List.take_length]
      repeat' (first|refine goM rfl ?_|refine goR rfl ?_|refine goX rfl ?_|refine goY rfl ?_)
      exact .ret (hend _ bs rfl rfl)
noncomputable def mkIss (x : Iss) (k : Nat) : Iss := ⟨(k : Nat), ⟨⟨(k + 1 : Nat), (k + 1 + 1 : Nat), markT (k + 1 + 1 + 1)⟩, mkAll mkClu stClu x.puz.clues (k + 1 + 1 + 1 + 1), mkAll mkInt stInt x.puz.seals (k + 1 + 1 + 1 + 1 + tot stClu x.puz.clues), (k + 1 + 1 + 1 + 1 + tot stClu x.puz.clues + tot stInt x.puz.seals : Nat)⟩, markT (k + 1 + 1 + 1 + 1 + tot stClu x.puz.clues + tot stInt x.puz.seals + 1), (k + 1 + 1 + 1 + 1 + tot stClu x.puz.clues + tot stInt x.puz.seals + 1 + 1 : Nat), (k + 1 + 1 + 1 + 1 + tot stClu x.puz.clues + tot stInt x.puz.seals + 1 + 1 + 1 : Nat)⟩
theorem markIssueS_ok (xs : List Iss) (k0 : Nat) (hs : smIssueS xs) (hk0 : k0 + tot stIss xs ≤ 4294967296) :
    CallsH PP F_laws_markIssueS [hIss xs] [hIss (mkAll mkIss stIss xs k0)] (fun u => [.v (.val (u 0)), .v (.int .i64 k0)]) (fun _ => [.v (.int .i64 ((k0 + tot stIss xs : Nat) : Int))]) := by
  obtain ⟨hlen, hall⟩ := hs
  refine SQ_laws_markIssueS [1000] [1000] (fun _ => rfl) (fun _ => ⟨Nat.le_of_ble_eq_true rfl, by simp⟩) (by simp) (by simp) (fun u Q hQ => ?_)
  obtain ⟨uv, ub⟩ := u
  have hend : ∀ (E : Env) (bs : List Nat), resP E [.tmp 4] = some [.v (.int .i64 ((k0 + tot stIss xs : Nat) : Int))] → get E 1000 = .heap false (uv 0) bs T_impl_Issue 10 128 ((mkAll mkIss stIss xs k0).map oIss) → Q E := fun E bs h1 h2 => hQ E ⟨(uv, fun _ => bs), h1, by simp, h2, trivial⟩
  clear hQ
  have key : ∀ n : Nat, ∀ bs, n ≤ xs.length → L_laws_markIssueS_0 PP Q
      [(0, .v (.val (uv 0))), (1, .v (.int .i64 ((k0 + tot stIss (xs.take n) : Nat) : Int))), (5, .v (.int .i64 n)), (1000, .heap false (uv 0) bs T_impl_Issue 10 128 ((mkPre mkIss stIss xs k0 n).map oIss)), (1001, .undef), (1002, .undef), (1003, .undef), (1004, .undef), (1005, .undef), (1006, .undef), (1007, .undef), (1008, .undef), (1009, .undef)] := up xs.length (fun n ih bs hn => ?_)
  · repeat' (first|refine goM rfl ?_|refine goR rfl ?_|refine goX rfl ?_|refine goY rfl ?_)
    refine run_loopF rfl ?_
    have := key 0 (ub 0) (Nat.zero_le _)
    rw [mkPre_zero] at this
    exact this
  · repeat' (first|refine mid_lenH (m := 1000) rfl rfl rfl ?_|refine goM rfl ?_|refine goR rfl ?_|refine goX rfl ?_|refine goY rfl ?_)
    rw [List.length_map, mkPre_len _ _ _ _ hn]
    refine run_cnd_lt rfl (fun hk => ?_) (fun hk => ?_)
    · have ih := ih hk
      rw [← mkPre_mapSet mkIss stIss oIss xs k0 hk, tot_take stIss xs hk, ← Nat.add_assoc] at ih
      rw [← mkPre_mapSelf mkIss stIss oIss xs k0 hk]
      have hb := tot_take_le stIss xs hk
      have hl : n < ((mkPre mkIss stIss xs k0 n).map oIss).length := by rw [List.length_map, mkPre_len _ _ _ _ hn]; exact hk
      have hb2 : k0 + tot stIss (xs.take n) + stIss xs[n] ≤ 4294967296 := by omega
      clear hb hn
      generalize k0 + tot stIss (xs.take n) = K at ih hb2 ⊢
      generalize (mkPre mkIss stIss xs k0 n).map oIss = es at ih hl ⊢
      simp only [stIss] at hb2
      have w0 : IntKind.i64.wrap (((K : Nat) : Int) + 1) = ((K + 1 : Nat) : Int) := wsucc (by omega)
      have w1 : IntKind.i64.wrap (((K + 1 : Nat) : Int) + 1) = ((K + 1 + 1 : Nat) : Int) := wsucc (by omega)
      have w2 : IntKind.i64.wrap (((K + 1 + 1 : Nat) : Int) + 1) = ((K + 1 + 1 + 1 : Nat) : Int) := wsucc (by omega)
      have w3 : IntKind.i64.wrap (((K + 1 + 1 + 1 : Nat) : Int) + 1) = ((K + 1 + 1 + 1 + 1 : Nat) : Int) := wsucc (by omega)
      have w6 : IntKind.i64.wrap (((K + 1 + 1 + 1 + 1 + tot stClu xs[n].puz.clues + tot stInt xs[n].puz.seals : Nat) : Int) + 1) = ((K + 1 + 1 + 1 + 1 + tot stClu xs[n].puz.clues + tot stInt xs[n].puz.seals + 1 : Nat) : Int) := wsucc (by omega)
      have w7 : IntKind.i64.wrap (((K + 1 + 1 + 1 + 1 + tot stClu xs[n].puz.clues + tot stInt xs[n].puz.seals + 1 : Nat) : Int) + 1) = ((K + 1 + 1 + 1 + 1 + tot stClu xs[n].puz.clues + tot stInt xs[n].puz.seals + 1 + 1 : Nat) : Int) := wsucc (by omega)
      have w8 : IntKind.i64.wrap (((K + 1 + 1 + 1 + 1 + tot stClu xs[n].puz.clues + tot stInt xs[n].puz.seals + 1 + 1 : Nat) : Int) + 1) = ((K + 1 + 1 + 1 + 1 + tot stClu xs[n].puz.clues + tot stInt xs[n].puz.seals + 1 + 1 + 1 : Nat) : Int) := wsucc (by omega)
      have w9 : IntKind.i64.wrap (((K + 1 + 1 + 1 + 1 + tot stClu xs[n].puz.clues + tot stInt xs[n].puz.seals + 1 + 1 + 1 : Nat) : Int) + 1) = ((K + 1 + 1 + 1 + 1 + tot stClu xs[n].puz.clues + tot stInt xs[n].puz.seals + 1 + 1 + 1 + 1 : Nat) : Int) := wsucc (by omega)
      repeat' (first|refine mid_idxS (m := 1000) hl rfl rfl rfl rfl ?_|refine mid_fldH rfl rfl ?_|refine goM rfl ?_|refine goR rfl ?_|refine goX rfl ?_)
      refine mid_stoS (m := 1000) (r' := [dI ((K : Nat) : Int), dI xs[n].puz.grid.rows, dI xs[n].puz.grid.cols, dS xs[n].puz.grid.cells, .own T_impl_Clue 2 32 (xs[n].puz.clues.map oClu), .own T_int 1 8 (xs[n].puz.seals.map rI), dI xs[n].puz.salt, dS xs[n].fill, dI xs[n].op, dI xs[n].cl]) hl rfl rfl rfl rfl rfl rfl rfl ?_
      repeat' (first|refine goM rfl ?_|refine goR rfl ?_|refine goX rfl ?_|refine goY rfl ?_)
      rw [w0]
      repeat' (first|refine mid_idxS (m := 1000) hl rfl rfl rfl rfl ?_|refine mid_fldH rfl rfl ?_)
      refine mid_stoS (m := 1000) (r' := [dI ((K : Nat) : Int), dI ((K + 1 : Nat) : Int), dI xs[n].puz.grid.cols, dS xs[n].puz.grid.cells, .own T_impl_Clue 2 32 (xs[n].puz.clues.map oClu), .own T_int 1 8 (xs[n].puz.seals.map rI), dI xs[n].puz.salt, dS xs[n].fill, dI xs[n].op, dI xs[n].cl]) hl rfl rfl rfl rfl rfl rfl rfl ?_
      repeat' (first|refine goM rfl ?_|refine goR rfl ?_|refine goX rfl ?_|refine goY rfl ?_)
      rw [w1]
      repeat' (first|refine mid_idxS (m := 1000) hl rfl rfl rfl rfl ?_|refine mid_fldH rfl rfl ?_)
      refine mid_stoS (m := 1000) (r' := [dI ((K : Nat) : Int), dI ((K + 1 : Nat) : Int), dI ((K + 1 + 1 : Nat) : Int), dS xs[n].puz.grid.cells, .own T_impl_Clue 2 32 (xs[n].puz.clues.map oClu), .own T_int 1 8 (xs[n].puz.seals.map rI), dI xs[n].puz.salt, dS xs[n].fill, dI xs[n].op, dI xs[n].cl]) hl rfl rfl rfl rfl rfl rfl rfl ?_
      repeat' (first|refine goM rfl ?_|refine goR rfl ?_|refine goX rfl ?_|refine goY rfl ?_)
      rw [w2]
      repeat' (first|refine mid_idxS (m := 1000) hl rfl rfl rfl rfl ?_|refine mid_fldH rfl rfl ?_|refine goC (markText_ok (K + 1 + 1 + 1) (by omega)) rfl rfl rfl rfl ?_)
      refine mid_stoS (m := 1000) (r' := [dI ((K : Nat) : Int), dI ((K + 1 : Nat) : Int), dI ((K + 1 + 1 : Nat) : Int), dS (markT (K + 1 + 1 + 1)), .own T_impl_Clue 2 32 (xs[n].puz.clues.map oClu), .own T_int 1 8 (xs[n].puz.seals.map rI), dI xs[n].puz.salt, dS xs[n].fill, dI xs[n].op, dI xs[n].cl]) hl rfl rfl rfl rfl rfl rfl rfl ?_
      repeat' (first|refine goM rfl ?_|refine goR rfl ?_|refine goX rfl ?_|refine goY rfl ?_)
      rw [w3]
      repeat' (first|refine mid_idxS (m := 1000) hl rfl rfl rfl rfl ?_|refine mid_fldH rfl rfl ?_)
      refine mid_openS (m := 1000) (o := 4) 1001 hl rfl rfl rfl (fun w4 bs4 cs4 => ?_)
      repeat' (first|refine mid_ldS (m := 1000) hl rfl rfl rfl rfl rfl ?_|refine goM rfl ?_)
      refine mid_callH1t (m0 := 1001) (args := fun v => [.v (.val v), .v (.int .i64 ((K + 1 + 1 + 1 + 1 : Nat) : Int))]) (markClueS_ok xs[n].puz.clues (K + 1 + 1 + 1 + 1) ((hall _ (List.getElem_mem hk)).2.1) (by omega)) rfl (by decide) rfl rfl rfl rfl rfl (by decide) (fun ds4 => ?_)
      refine mid_closeS (m := 1000) (o := 4) (r' := [dI ((K : Nat) : Int), dI ((K + 1 : Nat) : Int), dI ((K + 1 + 1 : Nat) : Int), dS (markT (K + 1 + 1 + 1)), .own T_impl_Clue 2 32 ((mkAll mkClu stClu xs[n].puz.clues (K + 1 + 1 + 1 + 1)).map oClu), .own T_int 1 8 (xs[n].puz.seals.map rI), dI xs[n].puz.salt, dS xs[n].fill, dI xs[n].op, dI xs[n].cl]) 1001 hl rfl rfl rfl (by decide) (fun h => h) rfl (fun es4 => ?_)
      repeat' (first|refine goM rfl ?_|refine goR rfl ?_|refine goX rfl ?_|refine goY rfl ?_)
      repeat' (first|refine mid_idxS (m := 1000) hl rfl rfl rfl rfl ?_|refine mid_fldH rfl rfl ?_)
      refine mid_openS (m := 1000) (o := 5) 1001 hl rfl rfl rfl (fun w5 bs5 cs5 => ?_)
      repeat' (first|refine mid_ldS (m := 1000) hl rfl rfl rfl rfl rfl ?_|refine goM rfl ?_)
      refine mid_callH1t (m0 := 1001) (args := fun v => [.v (.val v), .v (.int .i64 ((K + 1 + 1 + 1 + 1 + tot stClu xs[n].puz.clues : Nat) : Int))]) (markIntS_ok xs[n].puz.seals (K + 1 + 1 + 1 + 1 + tot stClu xs[n].puz.clues) ((hall _ (List.getElem_mem hk)).2.2) (by omega)) rfl (by decide) rfl rfl rfl rfl rfl (by decide) (fun ds5 => ?_)
      refine mid_closeS (m := 1000) (o := 5) (r' := [dI ((K : Nat) : Int), dI ((K + 1 : Nat) : Int), dI ((K + 1 + 1 : Nat) : Int), dS (markT (K + 1 + 1 + 1)), .own T_impl_Clue 2 32 ((mkAll mkClu stClu xs[n].puz.clues (K + 1 + 1 + 1 + 1)).map oClu), .own T_int 1 8 ((mkAll mkInt stInt xs[n].puz.seals (K + 1 + 1 + 1 + 1 + tot stClu xs[n].puz.clues)).map rI), dI xs[n].puz.salt, dS xs[n].fill, dI xs[n].op, dI xs[n].cl]) 1001 hl rfl rfl rfl (by decide) (fun h => h) rfl (fun es5 => ?_)
      repeat' (first|refine goM rfl ?_|refine goR rfl ?_|refine goX rfl ?_|refine goY rfl ?_)
      repeat' (first|refine mid_idxS (m := 1000) hl rfl rfl rfl rfl ?_|refine mid_fldH rfl rfl ?_)
      refine mid_stoS (m := 1000) (r' := [dI ((K : Nat) : Int), dI ((K + 1 : Nat) : Int), dI ((K + 1 + 1 : Nat) : Int), dS (markT (K + 1 + 1 + 1)), .own T_impl_Clue 2 32 ((mkAll mkClu stClu xs[n].puz.clues (K + 1 + 1 + 1 + 1)).map oClu), .own T_int 1 8 ((mkAll mkInt stInt xs[n].puz.seals (K + 1 + 1 + 1 + 1 + tot stClu xs[n].puz.clues)).map rI), dI ((K + 1 + 1 + 1 + 1 + tot stClu xs[n].puz.clues + tot stInt xs[n].puz.seals : Nat) : Int), dS xs[n].fill, dI xs[n].op, dI xs[n].cl]) hl rfl rfl rfl rfl rfl rfl rfl ?_
      repeat' (first|refine goM rfl ?_|refine goR rfl ?_|refine goX rfl ?_|refine goY rfl ?_)
      rw [w6]
      repeat' (first|refine mid_idxS (m := 1000) hl rfl rfl rfl rfl ?_|refine mid_fldH rfl rfl ?_|refine goC (markText_ok (K + 1 + 1 + 1 + 1 + tot stClu xs[n].puz.clues + tot stInt xs[n].puz.seals + 1) (by omega)) rfl rfl rfl rfl ?_)
      refine mid_stoS (m := 1000) (r' := [dI ((K : Nat) : Int), dI ((K + 1 : Nat) : Int), dI ((K + 1 + 1 : Nat) : Int), dS (markT (K + 1 + 1 + 1)), .own T_impl_Clue 2 32 ((mkAll mkClu stClu xs[n].puz.clues (K + 1 + 1 + 1 + 1)).map oClu), .own T_int 1 8 ((mkAll mkInt stInt xs[n].puz.seals (K + 1 + 1 + 1 + 1 + tot stClu xs[n].puz.clues)).map rI), dI ((K + 1 + 1 + 1 + 1 + tot stClu xs[n].puz.clues + tot stInt xs[n].puz.seals : Nat) : Int), dS (markT (K + 1 + 1 + 1 + 1 + tot stClu xs[n].puz.clues + tot stInt xs[n].puz.seals + 1)), dI xs[n].op, dI xs[n].cl]) hl rfl rfl rfl rfl rfl rfl rfl ?_
      repeat' (first|refine goM rfl ?_|refine goR rfl ?_|refine goX rfl ?_|refine goY rfl ?_)
      rw [w7]
      repeat' (first|refine mid_idxS (m := 1000) hl rfl rfl rfl rfl ?_|refine mid_fldH rfl rfl ?_)
      refine mid_stoS (m := 1000) (r' := [dI ((K : Nat) : Int), dI ((K + 1 : Nat) : Int), dI ((K + 1 + 1 : Nat) : Int), dS (markT (K + 1 + 1 + 1)), .own T_impl_Clue 2 32 ((mkAll mkClu stClu xs[n].puz.clues (K + 1 + 1 + 1 + 1)).map oClu), .own T_int 1 8 ((mkAll mkInt stInt xs[n].puz.seals (K + 1 + 1 + 1 + 1 + tot stClu xs[n].puz.clues)).map rI), dI ((K + 1 + 1 + 1 + 1 + tot stClu xs[n].puz.clues + tot stInt xs[n].puz.seals : Nat) : Int), dS (markT (K + 1 + 1 + 1 + 1 + tot stClu xs[n].puz.clues + tot stInt xs[n].puz.seals + 1)), dI ((K + 1 + 1 + 1 + 1 + tot stClu xs[n].puz.clues + tot stInt xs[n].puz.seals + 1 + 1 : Nat) : Int), dI xs[n].cl]) hl rfl rfl rfl rfl rfl rfl rfl ?_
      repeat' (first|refine goM rfl ?_|refine goR rfl ?_|refine goX rfl ?_|refine goY rfl ?_)
      rw [w8]
      repeat' (first|refine mid_idxS (m := 1000) hl rfl rfl rfl rfl ?_|refine mid_fldH rfl rfl ?_)
      refine mid_stoS (m := 1000) (r' := [dI ((K : Nat) : Int), dI ((K + 1 : Nat) : Int), dI ((K + 1 + 1 : Nat) : Int), dS (markT (K + 1 + 1 + 1)), .own T_impl_Clue 2 32 ((mkAll mkClu stClu xs[n].puz.clues (K + 1 + 1 + 1 + 1)).map oClu), .own T_int 1 8 ((mkAll mkInt stInt xs[n].puz.seals (K + 1 + 1 + 1 + 1 + tot stClu xs[n].puz.clues)).map rI), dI ((K + 1 + 1 + 1 + 1 + tot stClu xs[n].puz.clues + tot stInt xs[n].puz.seals : Nat) : Int), dS (markT (K + 1 + 1 + 1 + 1 + tot stClu xs[n].puz.clues + tot stInt xs[n].puz.seals + 1)), dI ((K + 1 + 1 + 1 + 1 + tot stClu xs[n].puz.clues + tot stInt xs[n].puz.seals + 1 + 1 : Nat) : Int), dI ((K + 1 + 1 + 1 + 1 + tot stClu xs[n].puz.clues + tot stInt xs[n].puz.seals + 1 + 1 + 1 : Nat) : Int)]) hl rfl rfl rfl rfl rfl rfl rfl ?_
      repeat' (first|refine goM rfl ?_|refine goR rfl ?_|refine goX rfl ?_|refine goY rfl ?_)
      rw [w9]
      rw [wsucc (show n < 9223372036854775807 by omega)]
      refine run_backF rfl ?_
      have he : K + 1 + 1 + 1 + 1 + tot stClu xs[n].puz.clues + tot stInt xs[n].puz.seals + 1 + 1 + 1 + 1 = K + stIss xs[n] := by simp only [stIss] <;> omega
      rw [he]
      exact ih _ (by omega)
    · have e : n = xs.length := by omega
      subst e
      rw [mkPre_end, List.take_length]
      repeat' (first|refine goM rfl ?_|refine goR rfl ?_|refine goX rfl ?_|refine goY rfl ?_)
      exact .ret (hend _ bs rfl rfl)
end Go.Rd
