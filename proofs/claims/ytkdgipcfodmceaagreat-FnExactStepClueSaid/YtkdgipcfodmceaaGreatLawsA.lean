import Derived.Test.YtkdgipcfodmceaaGreatTextsA
import Derived.Test.YtkdgipcfodmceaaGreatTextsB
/- Contracts of the functions that the law reaches. No condition. -/
set_option linter.unusedVariables false
set_option linter.unusedSimpArgs false
namespace Go.Rd
def mkAll {α : Type} (mk : α → Nat → α) (st : α → Nat) : List α → Nat → List α
  | [], _ => []
  | x :: xs, k => mk x k :: mkAll mk st xs (k + st x)
def tot {α : Type} (st : α → Nat) (xs : List α) : Nat := (xs.map st).sum
def mkPre {α : Type} (mk : α → Nat → α) (st : α → Nat) (xs : List α) (k i : Nat) : List α := mkAll mk st (xs.take i) k ++ xs.drop i
section
variable {α : Type} (mk : α → Nat → α) (st : α → Nat)
theorem tot_cons (x : α) (xs : List α) : tot st (x :: xs) = st x + tot st xs := by simp [tot]
theorem tot_append (xs ys : List α) : tot st (xs ++ ys) = tot st xs + tot st ys := by simp [tot]
theorem tot_take (xs : List α) {i : Nat} (h : i < xs.length) : tot st (xs.take (i + 1)) = tot st (xs.take i) + st xs[i] := by
  rw [← List.take_append_getElem h, tot_append]; simp [tot]
theorem tot_take_le (xs : List α) {i : Nat} (h : i < xs.length) : tot st (xs.take i) + st xs[i] ≤ tot st xs := by
  rw [← tot_take st xs h]
  have : tot st xs = tot st (xs.take (i + 1)) + tot st (xs.drop (i + 1)) := by rw [← tot_append, List.take_append_drop]
  omega
theorem tot_mem {xs : List α} {x : α} (h : x ∈ xs) : st x ≤ tot st xs := by
  induction xs with
  | nil => simp at h
  | cons y ys ih =>
    rw [tot_cons]
    rcases List.mem_cons.1 h with rfl | h
    · omega
    · have := ih h; omega
theorem tot_le {c m : Nat} (xs : List α) (f : α → Nat) (h : ∀ x ∈ xs, st x ≤ c + m * f x) : tot st xs ≤ c * xs.length + m * tot f xs := by
  induction xs with
  | nil => simp [tot]
  | cons y ys ih =>
    rw [tot_cons, tot_cons, List.length_cons, Nat.mul_add, Nat.mul_add]
    have h1 := h y (by simp)
    have h2 := ih (fun x hx => h x (by simp [hx]))
    omega
theorem mkAll_len : ∀ (xs : List α) (k : Nat), (mkAll mk st xs k).length = xs.length
  | [], _ => rfl
  | x :: xs, k => by simp [mkAll, mkAll_len xs]
theorem mkAll_append : ∀ (xs ys : List α) (k : Nat), mkAll mk st (xs ++ ys) k = mkAll mk st xs k ++ mkAll mk st ys (k + tot st xs)
  | [], ys, k => by simp [mkAll, tot]
  | x :: xs, ys, k => by simp only [List.cons_append, mkAll, mkAll_append xs, tot_cons]; rw [Nat.add_assoc]
theorem mkAll_get : ∀ (xs : List α) (k i : Nat) (h : i < xs.length), (mkAll mk st xs k)[i]'(by rw [mkAll_len]; exact h) = mk xs[i] (k + tot st (xs.take i))
  | [], _, _, h => by simp at h
  | x :: xs, k, 0, _ => by simp [mkAll, tot]
  | x :: xs, k, i + 1, h => by
    simp only [mkAll, List.getElem_cons_succ, List.take_succ_cons, tot_cons]
    rw [mkAll_get xs _ i (by simpa using h), Nat.add_assoc]
theorem mkPre_len (xs : List α) (k : Nat) {i : Nat} (h : i ≤ xs.length) : (mkPre mk st xs k i).length = xs.length := by simp [mkPre, mkAll_len]; omega
theorem mkPre_zero (xs : List α) (k : Nat) : mkPre mk st xs k 0 = xs := by simp [mkPre, mkAll]
theorem mkPre_end (xs : List α) (k : Nat) : mkPre mk st xs k xs.length = mkAll mk st xs k := by simp [mkPre]
theorem mkPre_set (xs : List α) (k : Nat) {i : Nat} (h : i < xs.length) : (mkPre mk st xs k i).set i (mk xs[i] (k + tot st (xs.take i))) = mkPre mk st xs k (i + 1) := by
  unfold mkPre
  have hl : (mkAll mk st (xs.take i) k).length = i := by rw [mkAll_len]; simp; omega
  have e : (xs.drop i).set 0 (mk xs[i] (k + tot st (xs.take i))) = mk xs[i] (k + tot st (xs.take i)) :: xs.drop (i + 1) := by rw [List.drop_eq_getElem_cons h]; rfl
  rw [List.set_append_right _ _ (by omega), hl, Nat.sub_self, e, ← List.take_append_getElem h, mkAll_append]
  simp [mkAll]
theorem mkPre_self (xs : List α) (k : Nat) {i : Nat} (h : i < xs.length) : (mkPre mk st xs k i).set i xs[i] = mkPre mk st xs k i := by
  unfold mkPre
  have hl : (mkAll mk st (xs.take i) k).length = i := by rw [mkAll_len]; simp; omega
  have e : (xs.drop i).set 0 xs[i] = xs.drop i := by rw [List.drop_eq_getElem_cons h]; rfl
  rw [List.set_append_right _ _ (by omega), hl, Nat.sub_self, e]
theorem mkPre_mapSet (f : α → List DV) (xs : List α) (k : Nat) {i : Nat} (h : i < xs.length) : ((mkPre mk st xs k i).map f).set i (f (mk xs[i] (k + tot st (xs.take i)))) = (mkPre mk st xs k (i + 1)).map f := by
  rw [← List.map_set, mkPre_set mk st xs k h]
theorem mkPre_mapSelf (f : α → List DV) (xs : List α) (k : Nat) {i : Nat} (h : i < xs.length) : ((mkPre mk st xs k i).map f).set i (f xs[i]) = (mkPre mk st xs k i).map f := by
  rw [← List.map_set, mkPre_self mk st xs k h]
end
def selV {α : Type} (a0 a1 a2 a3 a4 a5 a6 : α) : Nat → α
  | 0 => a0 | 1 => a1 | 2 => a2 | 3 => a3 | 4 => a4 | 5 => a5 | _ => a6
def sel2 {α : Type} (a0 a1 : α) : Nat → α
  | 0 => a0 | _ => a1
/-! ### How much there is -/
def cntClu (c : Clu) : Nat := c.play.length
def cntClus (l : List Clu) : Nat := l.length + tot cntClu l
def cntPuz (p : Puz) : Nat := cntClus p.clues + p.seals.length
def cntIss (x : Iss) : Nat := cntPuz x.puz
def cntIsss (l : List Iss) : Nat := l.length + tot cntIss l
def cntCor (c : Cor) : Nat := cntClu c.clue
def cntCors (l : List Cor) : Nat := l.length + tot cntCor l
def cntDra (d : Dra) : Nat := cntClus d.clues
def cntHou (h : Hou) : Nat := h.list.length + h.dict.length + cntDra h.desk + cntIsss h.issues + h.uses.length + cntCors h.cors + h.ents.length
theorem tot_const {α : Type} (z : Nat) (xs : List α) : tot (fun _ => z) xs = z * xs.length := by
  induction xs with
  | nil => rfl
  | cons x xs ih => rw [tot_cons, ih, List.length_cons, Nat.mul_add, Nat.mul_one, Nat.add_comm]
def stLis (_ : Lis) : Nat := 4
def stMea (_ : Mea) : Nat := 2
def stStp (_ : Stp) : Nat := 4
def stUse (_ : Use) : Nat := 2
def stEnt (_ : Ent) : Nat := 4
def stInt (_ : Int) : Nat := 1
def stClu (c : Clu) : Nat := 1 + tot stStp c.play
def stCor (c : Cor) : Nat := 4 + tot stStp c.clue.play
def stIss (x : Iss) : Nat := 8 + tot stClu x.puz.clues + tot stInt x.puz.seals
def stHou (h : Hou) : Nat := tot stLis h.list + tot stMea h.dict + tot stClu h.desk.clues + tot stIss h.issues + tot stUse h.uses + tot stCor h.cors + tot stEnt h.ents
theorem tot_stp (l : List Stp) : tot stStp l = 4 * l.length := tot_const 4 l
theorem tot_int (l : List Int) : tot stInt l = l.length := by rw [show stInt = fun _ => 1 from rfl, tot_const]; omega
theorem stClus_le (l : List Clu) : tot stClu l ≤ 4 * cntClus l := by
  have := tot_le stClu (c := 1) (m := 4) l cntClu (fun x _ => by simp [stClu, cntClu, tot_stp])
  unfold cntClus; omega
theorem stIss_le (x : Iss) : stIss x ≤ 8 + 4 * cntIss x := by
  have := stClus_le x.puz.clues
  have := tot_int x.puz.seals
  unfold stIss cntIss cntPuz; omega
theorem stHou_le (h : Hou) : stHou h ≤ 8 * cntHou h := by
  have h1 := stClus_le h.desk.clues
  have h2 := tot_le stIss (c := 8) (m := 4) h.issues cntIss (fun x _ => stIss_le x)
  have h3 := tot_le stCor (c := 4) (m := 4) h.cors cntCor (fun x _ => by simp [stCor, cntCor, cntClu, tot_stp])
  have h4 : tot stLis h.list = 4 * h.list.length := tot_const 4 _
  have h5 : tot stMea h.dict = 2 * h.dict.length := tot_const 2 _
  have h6 : tot stUse h.uses = 2 * h.uses.length := tot_const 2 _
  have h7 : tot stEnt h.ents = 4 * h.ents.length := tot_const 4 _
  unfold stHou cntHou cntDra cntIsss cntCors; omega
/-! ### What the laws' sizes leave -/
def wdec (n : Nat) (l : Int) : Int := IntKind.i64.wrap (l - n)
def seqz : List (Int → Int) → Int → Int
  | [], l => l
  | f :: fs, l => if f l < 0 then -1 else seqz fs (f l)
def szLoop {α : Type} (f : α → Int → Int) : List α → Int → Int
  | [], l => l
  | x :: xs, l => if f x l < 0 then -1 else szLoop f xs (f x l)
def szList {α : Type} (f : α → Int → Int) (xs : List α) (l : Int) : Int := if wdec xs.length l < 0 then -1 else szLoop f xs (wdec xs.length l)
def Less (f : Int → Int) (c : Nat) : Prop := ∀ l : Int, 0 ≤ l → l ≤ 1048576 → 0 ≤ f l → f l + c ≤ l
theorem less_wdec {n : Nat} (h : n ≤ 140737488355328) : Less (wdec n) n := fun l h0 h1 h2 => by
  unfold wdec at h2 ⊢
  rw [w64 (by omega) (by omega)] at h2 ⊢; omega
theorem Less.mono {f : Int → Int} {c c' : Nat} (h : Less f c) (hc : c' ≤ c) : Less f c' := fun l h0 h1 h2 => by have := h l h0 h1 h2; omega
theorem less_nil : Less (seqz []) 0 := fun l _ _ _ => by simp [seqz]
theorem less_cons {f : Int → Int} {fs : List (Int → Int)} {a b : Nat} (h1 : Less f a) (h2 : Less (seqz fs) b) : Less (seqz (f :: fs)) (a + b) := fun l h0 hl h => by
  simp only [seqz] at h ⊢
  split at h
  · omega
  · rename_i hn
    rw [if_neg hn]
    have e1 := h1 l h0 hl (by omega)
    have e2 := h2 (f l) (by omega) (by omega) h
    omega
theorem less_loop {α : Type} {f : α → Int → Int} {c : α → Nat} : ∀ {xs : List α}, (∀ x ∈ xs, Less (f x) (c x)) → Less (szLoop f xs) (tot c xs)
  | [], _ => fun l _ _ _ => by simp [szLoop, tot]
  | x :: xs, h => fun l h0 hl hh => by
    simp only [szLoop] at hh ⊢
    split at hh
    · omega
    · rename_i hn
      rw [if_neg hn, tot_cons]
      have e1 := h x (by simp) l h0 hl (by omega)
      have e2 := less_loop (xs := xs) (fun y hy => h y (by simp [hy])) (f x l) (by omega) (by omega) hh
      omega
theorem less_list {α : Type} {f : α → Int → Int} {c : α → Nat} {xs : List α} (hn : xs.length ≤ 140737488355328) (h : ∀ x ∈ xs, Less (f x) (c x)) : Less (szList f xs) (xs.length + tot c xs) := fun l h0 hl hh => by
  unfold szList at hh ⊢
  split at hh
  · omega
  · rename_i hx
    rw [if_neg hx]
    have e1 := less_wdec hn l h0 hl (by omega)
    have e2 := less_loop h (wdec xs.length l) (by omega) (by omega) hh
    omega
end Go.Rd

namespace Go.Rd
open Go.Proofs
set_option linter.unusedSimpArgs false
set_option linter.unusedVariables false
set_option maxRecDepth 10000
/- Listed -/
def smListed (x : Lis) : Prop := True
def bgListed (x : Lis) : Prop := x.word.length ≤ 140737488355328
def sz_Listed (x : Lis) : Int → Int := seqz [wdec x.word.length]
theorem szListed_ok (x : Lis) (l : Int) (h : bgListed x) : CallsOK PP F_laws_szListed [.agg (rLis x), .v (.int .i64 l)] [.v (.int .i64 (sz_Listed x l))] := by
  refine S_laws_szListed rfl (Nat.le_of_ble_eq_true rfl) ?_
  repeat' (first|refine goM rfl ?_|refine goR rfl ?_|refine goX rfl ?_|refine goY rfl ?_)
  refine run_sz rfl (fun h0 => ?_) (fun h0 => ?_)
  · repeat' (first|refine goM rfl ?_|refine goR rfl ?_|refine goX rfl ?_|refine goY rfl ?_)
    (first|refine run_ret rfl ?_|refine run_done rfl ?_)
    replace h0 : (wdec x.word.length) l < 0 := h0
    simp only [sz_Listed, seqz, h0, if_true, if_false]
  · repeat' (first|refine goM rfl ?_|refine goR rfl ?_|refine goX rfl ?_|refine goY rfl ?_)
    (first|refine run_ret rfl ?_|refine run_done rfl ?_)
    replace h0 : ¬ (wdec x.word.length) l < 0 := h0
    simp only [sz_Listed, seqz, h0, if_false]
    try rfl
theorem toListed_ok (x : Lis) (h : smListed x) : CallsOK PP F_laws_toListed [.agg (rLis x)] [.agg (rLis x)] := by
  refine S_laws_toListed rfl (Nat.le_of_ble_eq_true rfl) ?_
  repeat' (first|refine goM rfl ?_|refine goR rfl ?_|refine goX rfl ?_|refine goY rfl ?_)
  (first|refine run_ret rfl ?_|refine run_done rfl ?_)
  rfl
theorem eqListed_ok (x : Lis) (h : smListed x) : CallsOK PP F_laws_eqListed [.agg (rLis x), .agg (rLis x)] [.v (.bool true)] := by
  refine S_laws_eqListed rfl (Nat.le_of_ble_eq_true rfl) ?_
  repeat' (first|refine run_neI rfl ?_|refine run_neS rfl ?_|refine goM rfl ?_|refine goR rfl ?_|refine goX rfl ?_|refine goY rfl ?_)
  (first|refine run_ret rfl ?_|refine run_done rfl ?_)
  rfl
/- ListedS -/
def smListedS (xs : List Lis) : Prop := xs.length ≤ 1048576 ∧ ∀ x ∈ xs, smListed x
def bgListedS (xs : List Lis) : Prop := xs.length ≤ 140737488355328 ∧ ∀ x ∈ xs, bgListed x
theorem szListedS_ok (xs : List Lis) (l : Int) (h : bgListedS xs) : CallsOK PP F_laws_szListedS [.v (.sl 4 (xs.map rLis)), .v (.int .i64 l)] [.v (.int .i64 (szList sz_Listed xs l))] := by
  obtain ⟨hlen, hall⟩ := h
  refine S_laws_szListedS rfl (Nat.le_of_ble_eq_true rfl) ?_
  repeat' (first|refine goM rfl ?_|refine goR rfl ?_|refine goX rfl ?_|refine goY rfl ?_)
  refine run_sz rfl (fun h0 => ?_) (fun h0 => ?_)
  · repeat' (first|refine goM rfl ?_|refine goR rfl ?_|refine goX rfl ?_|refine goY rfl ?_)
    (first|refine run_ret rfl ?_|refine run_done rfl ?_)
    rw [List.length_map] at h0
    replace h0 : wdec xs.length l < 0 := h0
    simp only [szList, h0, if_true]
  · have key : ∀ k : Nat, ∀ l : Int, L_laws_szListedS_0 PP [(0, .v (.sl 4 (xs.map rLis))), (1, .v (.int .i64 l)), (5, .v (.int .i64 k))] [.v (.int .i64 (szLoop sz_Listed (xs.drop k) l))] := up xs.length (fun k ih l => ?_)
    · repeat' (first|refine goM rfl ?_|refine goR rfl ?_|refine goX rfl ?_|refine goY rfl ?_)
      refine run_loopF rfl ?_
      rw [List.length_map] at h0
      replace h0 : ¬ wdec xs.length l < 0 := h0
      rw [List.length_map]
      simp only [szList, h0, if_false]
      exact key 0 _
    · repeat' (first|refine goM rfl ?_|refine goR rfl ?_|refine goX rfl ?_|refine goY rfl ?_)
      refine run_cnd_lt (n := (xs.map rLis).length) rfl (fun hk => ?_) (fun hk => ?_)
      · rw [List.length_map] at hk
        repeat' (first|refine mid_idxm rfl rfl hk rfl ?_|refine goM rfl ?_|refine goR rfl ?_|refine goX rfl ?_|refine goY rfl ?_|refine goC (szListed_ok xs[k] _ (hall _ (List.getElem_mem hk))) rfl rfl rfl rfl ?_)
        rw [List.drop_eq_getElem_cons hk]
        refine run_sz rfl (fun h1 => ?_) (fun h1 => ?_)
        · repeat' (first|refine goM rfl ?_|refine goR rfl ?_|refine goX rfl ?_|refine goY rfl ?_)
          (first|refine run_ret rfl ?_|refine run_done rfl ?_)
          simp [szLoop, h1]
        · repeat' (first|refine goM rfl ?_|refine goR rfl ?_|refine goX rfl ?_|refine goY rfl ?_)
          refine run_backF rfl ?_
          rw [wsucc (by omega)]
          simp only [szLoop, h1, if_false]
          exact ih hk _
      · rw [List.length_map] at hk
        repeat' (first|refine goM rfl ?_|refine goR rfl ?_|refine goX rfl ?_|refine goY rfl ?_)
        (first|refine run_ret rfl ?_|refine run_done rfl ?_)
        rw [List.drop_eq_nil_of_le (by omega)]; rfl
theorem toListedS_ok (xs : List Lis) (h : smListedS xs) : CallsOK PP F_laws_toListedS [.v (.sl 4 (xs.map rLis))] [.own T_impl_Listed 4 40 (xs.map rLis)] := by
  obtain ⟨hlen, hall⟩ := h
  refine S_laws_toListedS rfl (Nat.le_of_ble_eq_true rfl) ?_
  have key : ∀ k : Nat, k ≤ xs.length → L_laws_toListedS_0 PP [(0, .v (.sl 4 (xs.map rLis))), (3, .own T_impl_Listed 4 40 (fillRows rLis [.str [], .int .i64 0, .int .i64 0, .int .i64 0] xs k)), (4, .v (.int .i64 k))] [.own T_impl_Listed 4 40 (xs.map rLis)] := up xs.length (fun k ih hle => ?_)
  · repeat' (first|refine mid_mks rfl (by rw [List.length_map]; omega) (by rw [List.length_map]; omega) rfl ?_|refine goM rfl ?_|refine goR rfl ?_|refine goX rfl ?_|refine goY rfl ?_)
    refine run_loopF rfl ?_
    rw [List.length_map, ← fillRows_zero rLis _ xs]
    exact key 0 (Nat.zero_le _)
  · repeat' (first|refine goM rfl ?_|refine goR rfl ?_|refine goX rfl ?_|refine goY rfl ?_)
    refine run_cnd_lt (n := (xs.map rLis).length) rfl (fun hk => ?_) (fun hk => ?_)
    · rw [List.length_map] at hk
      repeat' (first|refine mid_idxm rfl rfl hk rfl ?_|refine mid_idxo rfl rfl rfl (by omega) (by rw [fillRows_len _ _ _ hle]; omega) rfl ?_|refine mid_sto_row rfl rfl rfl rfl rfl (fillRows_len1 _ _ _ hk) ?_|refine goM rfl ?_|refine goR rfl ?_|refine goX rfl ?_|refine goY rfl ?_|refine goC (toListed_ok xs[k] (hall _ (List.getElem_mem hk))) rfl rfl rfl rfl ?_)
      refine run_backF rfl ?_
      rw [wsucc (by omega), Int.toNat_natCast]
      have hs := fillRows_set rLis [.str [], .int .i64 0, .int .i64 0, .int .i64 0] xs hk
      simp only [rLis] at hs ⊢
      rw [hs]
      exact ih hk (by omega)
    · rw [List.length_map] at hk
      repeat' (first|refine goM rfl ?_|refine goR rfl ?_|refine goX rfl ?_|refine goY rfl ?_)
      (first|refine run_ret rfl ?_|refine run_done rfl ?_)
      rw [fillRows_all _ _ _ (by omega)]
theorem eqListedS_ok (xs : List Lis) (h : smListedS xs) : CallsOK PP F_laws_eqListedS [.v (.sl 4 (xs.map rLis)), .v (.sl 4 (xs.map rLis))] [.v (.bool true)] := by
  obtain ⟨hlen, hall⟩ := h
  refine S_laws_eqListedS rfl (Nat.le_of_ble_eq_true rfl) ?_
  have key : ∀ k : Nat, L_laws_eqListedS_0 PP [(0, .v (.sl 4 (xs.map rLis))), (1, .v (.sl 4 (xs.map rLis))), (5, .v (.int .i64 k))] [.v (.bool true)] := up xs.length (fun k ih => ?_)
  · repeat' (first|refine run_neI rfl ?_|refine goM rfl ?_|refine goR rfl ?_|refine goX rfl ?_|refine goY rfl ?_)
    refine run_loopF rfl ?_
    exact key 0
  · repeat' (first|refine goM rfl ?_|refine goR rfl ?_|refine goX rfl ?_|refine goY rfl ?_)
    refine run_cnd_lt (n := (xs.map rLis).length) rfl (fun hk => ?_) (fun hk => ?_)
    · rw [List.length_map] at hk
      repeat' (first|refine mid_idxm rfl rfl hk rfl ?_|refine goM rfl ?_|refine goR rfl ?_|refine goX rfl ?_|refine goY rfl ?_|refine goC (eqListed_ok xs[k] (hall _ (List.getElem_mem hk))) rfl rfl rfl rfl ?_)
      refine run_backF rfl ?_
      rw [wsucc (by omega)]
      exact ih hk
    · repeat' (first|refine goM rfl ?_|refine goR rfl ?_|refine goX rfl ?_|refine goY rfl ?_)
      (first|refine run_ret rfl ?_|refine run_done rfl ?_)
      rfl
/- Meaning -/
def smMeaning (x : Mea) : Prop := True
def bgMeaning (x : Mea) : Prop := x.word.length ≤ 140737488355328
def sz_Meaning (x : Mea) : Int → Int := seqz [wdec x.word.length]
theorem szMeaning_ok (x : Mea) (l : Int) (h : bgMeaning x) : CallsOK PP F_laws_szMeaning [.agg (rMea x), .v (.int .i64 l)] [.v (.int .i64 (sz_Meaning x l))] := by
  refine S_laws_szMeaning rfl (Nat.le_of_ble_eq_true rfl) ?_
  repeat' (first|refine goM rfl ?_|refine goR rfl ?_|refine goX rfl ?_|refine goY rfl ?_)
  refine run_sz rfl (fun h0 => ?_) (fun h0 => ?_)
  · repeat' (first|refine goM rfl ?_|refine goR rfl ?_|refine goX rfl ?_|refine goY rfl ?_)
    (first|refine run_ret rfl ?_|refine run_done rfl ?_)
    replace h0 : (wdec x.word.length) l < 0 := h0
    simp only [sz_Meaning, seqz, h0, if_true, if_false]
  · repeat' (first|refine goM rfl ?_|refine goR rfl ?_|refine goX rfl ?_|refine goY rfl ?_)
    (first|refine run_ret rfl ?_|refine run_done rfl ?_)
    replace h0 : ¬ (wdec x.word.length) l < 0 := h0
    simp only [sz_Meaning, seqz, h0, if_false]
    try rfl
theorem toMeaning_ok (x : Mea) (h : smMeaning x) : CallsOK PP F_laws_toMeaning [.agg (rMea x)] [.agg (rMea x)] := by
  refine S_laws_toMeaning rfl (Nat.le_of_ble_eq_true rfl) ?_
  repeat' (first|refine goM rfl ?_|refine goR rfl ?_|refine goX rfl ?_|refine goY rfl ?_)
  (first|refine run_ret rfl ?_|refine run_done rfl ?_)
  rfl
theorem eqMeaning_ok (x : Mea) (h : smMeaning x) : CallsOK PP F_laws_eqMeaning [.agg (rMea x), .agg (rMea x)] [.v (.bool true)] := by
  refine S_laws_eqMeaning rfl (Nat.le_of_ble_eq_true rfl) ?_
  repeat' (first|refine run_neI rfl ?_|refine run_neS rfl ?_|refine goM rfl ?_|refine goR rfl ?_|refine goX rfl ?_|refine goY rfl ?_)
  (first|refine run_ret rfl ?_|refine run_done rfl ?_)
  rfl
/- MeaningS -/
def smMeaningS (xs : List Mea) : Prop := xs.length ≤ 1048576 ∧ ∀ x ∈ xs, smMeaning x
def bgMeaningS (xs : List Mea) : Prop := xs.length ≤ 140737488355328 ∧ ∀ x ∈ xs, bgMeaning x
theorem szMeaningS_ok (xs : List Mea) (l : Int) (h : bgMeaningS xs) : CallsOK PP F_laws_szMeaningS [.v (.sl 2 (xs.map rMea)), .v (.int .i64 l)] [.v (.int .i64 (szList sz_Meaning xs l))] := by
  obtain ⟨hlen, hall⟩ := h
  refine S_laws_szMeaningS rfl (Nat.le_of_ble_eq_true rfl) ?_
  repeat' (first|refine goM rfl ?_|refine goR rfl ?_|refine goX rfl ?_|refine goY rfl ?_)
  refine run_sz rfl (fun h0 => ?_) (fun h0 => ?_)
  · repeat' (first|refine goM rfl ?_|refine goR rfl ?_|refine goX rfl ?_|refine goY rfl ?_)
    (first|refine run_ret rfl ?_|refine run_done rfl ?_)
    rw [List.length_map] at h0
    replace h0 : wdec xs.length l < 0 := h0
    simp only [szList, h0, if_true]
  · have key : ∀ k : Nat, ∀ l : Int, L_laws_szMeaningS_0 PP [(0, .v (.sl 2 (xs.map rMea))), (1, .v (.int .i64 l)), (5, .v (.int .i64 k))] [.v (.int .i64 (szLoop sz_Meaning (xs.drop k) l))] := up xs.length (fun k ih l => ?_)
    · repeat' (first|refine goM rfl ?_|refine goR rfl ?_|refine goX rfl ?_|refine goY rfl ?_)
      refine run_loopF rfl ?_
      rw [List.length_map] at h0
      replace h0 : ¬ wdec xs.length l < 0 := h0
      rw [List.length_map]
      simp only [szList, h0, if_false]
      exact key 0 _
    · repeat' (first|refine goM rfl ?_|refine goR rfl ?_|refine goX rfl ?_|refine goY rfl ?_)
      refine run_cnd_lt (n := (xs.map rMea).length) rfl (fun hk => ?_) (fun hk => ?_)
      · rw [List.length_map] at hk
        repeat' (first|refine mid_idxm rfl rfl hk rfl ?_|refine goM rfl ?_|refine goR rfl ?_|refine goX rfl ?_|refine goY rfl ?_|refine goC (szMeaning_ok xs[k] _ (hall _ (List.getElem_mem hk))) rfl rfl rfl rfl ?_)
        rw [List.drop_eq_getElem_cons hk]
        refine run_sz rfl (fun h1 => ?_) (fun h1 => ?_)
        · repeat' (first|refine goM rfl ?_|refine goR rfl ?_|refine goX rfl ?_|refine goY rfl ?_)
          (first|refine run_ret rfl ?_|refine run_done rfl ?_)
          simp [szLoop, h1]
        · repeat' (first|refine goM rfl ?_|refine goR rfl ?_|refine goX rfl ?_|refine goY rfl ?_)
          refine run_backF rfl ?_
          rw [wsucc (by omega)]
          simp only [szLoop, h1, if_false]
          exact ih hk _
      · rw [List.length_map] at hk
        repeat' (first|refine goM rfl ?_|refine goR rfl ?_|refine goX rfl ?_|refine goY rfl ?_)
        (first|refine run_ret rfl ?_|refine run_done rfl ?_)
        rw [List.drop_eq_nil_of_le (by omega)]; rfl
theorem toMeaningS_ok (xs : List Mea) (h : smMeaningS xs) : CallsOK PP F_laws_toMeaningS [.v (.sl 2 (xs.map rMea))] [.own T_impl_Meaning 2 24 (xs.map rMea)] := by
  obtain ⟨hlen, hall⟩ := h
  refine S_laws_toMeaningS rfl (Nat.le_of_ble_eq_true rfl) ?_
  have key : ∀ k : Nat, k ≤ xs.length → L_laws_toMeaningS_0 PP [(0, .v (.sl 2 (xs.map rMea))), (3, .own T_impl_Meaning 2 24 (fillRows rMea [.str [], .int .i64 0] xs k)), (4, .v (.int .i64 k))] [.own T_impl_Meaning 2 24 (xs.map rMea)] := up xs.length (fun k ih hle => ?_)
  · repeat' (first|refine mid_mks rfl (by rw [List.length_map]; omega) (by rw [List.length_map]; omega) rfl ?_|refine goM rfl ?_|refine goR rfl ?_|refine goX rfl ?_|refine goY rfl ?_)
    refine run_loopF rfl ?_
    rw [List.length_map, ← fillRows_zero rMea _ xs]
    exact key 0 (Nat.zero_le _)
  · repeat' (first|refine goM rfl ?_|refine goR rfl ?_|refine goX rfl ?_|refine goY rfl ?_)
    refine run_cnd_lt (n := (xs.map rMea).length) rfl (fun hk => ?_) (fun hk => ?_)
    · rw [List.length_map] at hk
      repeat' (first|refine mid_idxm rfl rfl hk rfl ?_|refine mid_idxo rfl rfl rfl (by omega) (by rw [fillRows_len _ _ _ hle]; omega) rfl ?_|refine mid_sto_row rfl rfl rfl rfl rfl (fillRows_len1 _ _ _ hk) ?_|refine goM rfl ?_|refine goR rfl ?_|refine goX rfl ?_|refine goY rfl ?_|refine goC (toMeaning_ok xs[k] (hall _ (List.getElem_mem hk))) rfl rfl rfl rfl ?_)
      refine run_backF rfl ?_
      rw [wsucc (by omega), Int.toNat_natCast]
      have hs := fillRows_set rMea [.str [], .int .i64 0] xs hk
      simp only [rMea] at hs ⊢
      rw [hs]
      exact ih hk (by omega)
    · rw [List.length_map] at hk
      repeat' (first|refine goM rfl ?_|refine goR rfl ?_|refine goX rfl ?_|refine goY rfl ?_)
      (first|refine run_ret rfl ?_|refine run_done rfl ?_)
      rw [fillRows_all _ _ _ (by omega)]
theorem eqMeaningS_ok (xs : List Mea) (h : smMeaningS xs) : CallsOK PP F_laws_eqMeaningS [.v (.sl 2 (xs.map rMea)), .v (.sl 2 (xs.map rMea))] [.v (.bool true)] := by
  obtain ⟨hlen, hall⟩ := h
  refine S_laws_eqMeaningS rfl (Nat.le_of_ble_eq_true rfl) ?_
  have key : ∀ k : Nat, L_laws_eqMeaningS_0 PP [(0, .v (.sl 2 (xs.map rMea))), (1, .v (.sl 2 (xs.map rMea))), (5, .v (.int .i64 k))] [.v (.bool true)] := up xs.length (fun k ih => ?_)
  · repeat' (first|refine run_neI rfl ?_|refine goM rfl ?_|refine goR rfl ?_|refine goX rfl ?_|refine goY rfl ?_)
    refine run_loopF rfl ?_
    exact key 0
  · repeat' (first|refine goM rfl ?_|refine goR rfl ?_|refine goX rfl ?_|refine goY rfl ?_)
    refine run_cnd_lt (n := (xs.map rMea).length) rfl (fun hk => ?_) (fun hk => ?_)
    · rw [List.length_map] at hk
      repeat' (first|refine mid_idxm rfl rfl hk rfl ?_|refine goM rfl ?_|refine goR rfl ?_|refine goX rfl ?_|refine goY rfl ?_|refine goC (eqMeaning_ok xs[k] (hall _ (List.getElem_mem hk))) rfl rfl rfl rfl ?_)
      refine run_backF rfl ?_
      rw [wsucc (by omega)]
      exact ih hk
    · repeat' (first|refine goM rfl ?_|refine goR rfl ?_|refine goX rfl ?_|refine goY rfl ?_)
      (first|refine run_ret rfl ?_|refine run_done rfl ?_)
      rfl
/- Grid -/
def smGrid (x : Grd) : Prop := True
def bgGrid (x : Grd) : Prop := x.cells.length ≤ 140737488355328
def sz_Grid (x : Grd) : Int → Int := seqz [wdec x.cells.length]
theorem szGrid_ok (x : Grd) (l : Int) (h : bgGrid x) : CallsOK PP F_laws_szGrid [.agg (rGrd x), .v (.int .i64 l)] [.v (.int .i64 (sz_Grid x l))] := by
  refine S_laws_szGrid rfl (Nat.le_of_ble_eq_true rfl) ?_
  repeat' (first|refine goM rfl ?_|refine goR rfl ?_|refine goX rfl ?_|refine goY rfl ?_)
  refine run_sz rfl (fun h0 => ?_) (fun h0 => ?_)
  · repeat' (first|refine goM rfl ?_|refine goR rfl ?_|refine goX rfl ?_|refine goY rfl ?_)
    (first|refine run_ret rfl ?_|refine run_done rfl ?_)
    replace h0 : (wdec x.cells.length) l < 0 := h0
    simp only [sz_Grid, seqz, h0, if_true, if_false]
  · repeat' (first|refine goM rfl ?_|refine goR rfl ?_|refine goX rfl ?_|refine goY rfl ?_)
    (first|refine run_ret rfl ?_|refine run_done rfl ?_)
    replace h0 : ¬ (wdec x.cells.length) l < 0 := h0
    simp only [sz_Grid, seqz, h0, if_false]
    try rfl
theorem toGrid_ok (x : Grd) (h : smGrid x) : CallsOK PP F_laws_toGrid [.agg (rGrd x)] [.agg (rGrd x)] := by
  refine S_laws_toGrid rfl (Nat.le_of_ble_eq_true rfl) ?_
  repeat' (first|refine goM rfl ?_|refine goR rfl ?_|refine goX rfl ?_|refine goY rfl ?_)
  (first|refine run_ret rfl ?_|refine run_done rfl ?_)
  rfl
theorem eqGrid_ok (x : Grd) (h : smGrid x) : CallsOK PP F_laws_eqGrid [.agg (rGrd x), .agg (rGrd x)] [.v (.bool true)] := by
  refine S_laws_eqGrid rfl (Nat.le_of_ble_eq_true rfl) ?_
  repeat' (first|refine run_neI rfl ?_|refine run_neS rfl ?_|refine goM rfl ?_|refine goR rfl ?_|refine goX rfl ?_|refine goY rfl ?_)
  (first|refine run_ret rfl ?_|refine run_done rfl ?_)
  rfl
/- Step -/
def smStep (x : Stp) : Prop := True
def bgStep (x : Stp) : Prop := x.word.length ≤ 140737488355328
def sz_Step (x : Stp) : Int → Int := seqz [wdec x.word.length]
theorem szStep_ok (x : Stp) (l : Int) (h : bgStep x) : CallsOK PP F_laws_szStep [.agg (rStp x), .v (.int .i64 l)] [.v (.int .i64 (sz_Step x l))] := by
  refine S_laws_szStep rfl (Nat.le_of_ble_eq_true rfl) ?_
  repeat' (first|refine goM rfl ?_|refine goR rfl ?_|refine goX rfl ?_|refine goY rfl ?_)
  refine run_sz rfl (fun h0 => ?_) (fun h0 => ?_)
  · repeat' (first|refine goM rfl ?_|refine goR rfl ?_|refine goX rfl ?_|refine goY rfl ?_)
    (first|refine run_ret rfl ?_|refine run_done rfl ?_)
    replace h0 : (wdec x.word.length) l < 0 := h0
    simp only [sz_Step, seqz, h0, if_true, if_false]
  · repeat' (first|refine goM rfl ?_|refine goR rfl ?_|refine goX rfl ?_|refine goY rfl ?_)
    (first|refine run_ret rfl ?_|refine run_done rfl ?_)
    replace h0 : ¬ (wdec x.word.length) l < 0 := h0
    simp only [sz_Step, seqz, h0, if_false]
    try rfl
theorem toStep_ok (x : Stp) (h : smStep x) : CallsOK PP F_laws_toStep [.agg (rStp x)] [.agg (rStp x)] := by
  refine S_laws_toStep rfl (Nat.le_of_ble_eq_true rfl) ?_
  repeat' (first|refine goM rfl ?_|refine goR rfl ?_|refine goX rfl ?_|refine goY rfl ?_)
  (first|refine run_ret rfl ?_|refine run_done rfl ?_)
  rfl
theorem eqStep_ok (x : Stp) (h : smStep x) : CallsOK PP F_laws_eqStep [.agg (rStp x), .agg (rStp x)] [.v (.bool true)] := by
  refine S_laws_eqStep rfl (Nat.le_of_ble_eq_true rfl) ?_
  repeat' (first|refine run_neI rfl ?_|refine run_neS rfl ?_|refine goM rfl ?_|refine goR rfl ?_|refine goX rfl ?_|refine goY rfl ?_)
  (first|refine run_ret rfl ?_|refine run_done rfl ?_)
  rfl
/- StepS -/
def smStepS (xs : List Stp) : Prop := xs.length ≤ 1048576 ∧ ∀ x ∈ xs, smStep x
def bgStepS (xs : List Stp) : Prop := xs.length ≤ 140737488355328 ∧ ∀ x ∈ xs, bgStep x
theorem szStepS_ok (xs : List Stp) (l : Int) (h : bgStepS xs) : CallsOK PP F_laws_szStepS [.v (.sl 4 (xs.map rStp)), .v (.int .i64 l)] [.v (.int .i64 (szList sz_Step xs l))] := by
  obtain ⟨hlen, hall⟩ := h
  refine S_laws_szStepS rfl (Nat.le_of_ble_eq_true rfl) ?_
  repeat' (first|refine goM rfl ?_|refine goR rfl ?_|refine goX rfl ?_|refine goY rfl ?_)
  refine run_sz rfl (fun h0 => ?_) (fun h0 => ?_)
  · repeat' (first|refine goM rfl ?_|refine goR rfl ?_|refine goX rfl ?_|refine goY rfl ?_)
    (first|refine run_ret rfl ?_|refine run_done rfl ?_)
    rw [List.length_map] at h0
    replace h0 : wdec xs.length l < 0 := h0
    simp only [szList, h0, if_true]
  · have key : ∀ k : Nat, ∀ l : Int, L_laws_szStepS_0 PP [(0, .v (.sl 4 (xs.map rStp))), (1, .v (.int .i64 l)), (5, .v (.int .i64 k))] [.v (.int .i64 (szLoop sz_Step (xs.drop k) l))] := up xs.length (fun k ih l => ?_)
    · repeat' (first|refine goM rfl ?_|refine goR rfl ?_|refine goX rfl ?_|refine goY rfl ?_)
      refine run_loopF rfl ?_
      rw [List.length_map] at h0
      replace h0 : ¬ wdec xs.length l < 0 := h0
      rw [List.length_map]
      simp only [szList, h0, if_false]
      exact key 0 _
    · repeat' (first|refine goM rfl ?_|refine goR rfl ?_|refine goX rfl ?_|refine goY rfl ?_)
      refine run_cnd_lt (n := (xs.map rStp).length) rfl (fun hk => ?_) (fun hk => ?_)
      · rw [List.length_map] at hk
        repeat' (first|refine mid_idxm rfl rfl hk rfl ?_|refine goM rfl ?_|refine goR rfl ?_|refine goX rfl ?_|refine goY rfl ?_|refine goC (szStep_ok xs[k] _ (hall _ (List.getElem_mem hk))) rfl rfl rfl rfl ?_)
        rw [List.drop_eq_getElem_cons hk]
        refine run_sz rfl (fun h1 => ?_) (fun h1 => ?_)
        · repeat' (first|refine goM rfl ?_|refine goR rfl ?_|refine goX rfl ?_|refine goY rfl ?_)
          (first|refine run_ret rfl ?_|refine run_done rfl ?_)
          simp [szLoop, h1]
        · repeat' (first|refine goM rfl ?_|refine goR rfl ?_|refine goX rfl ?_|refine goY rfl ?_)
          refine run_backF rfl ?_
          rw [wsucc (by omega)]
          simp only [szLoop, h1, if_false]
          exact ih hk _
      · rw [List.length_map] at hk
        repeat' (first|refine goM rfl ?_|refine goR rfl ?_|refine goX rfl ?_|refine goY rfl ?_)
        (first|refine run_ret rfl ?_|refine run_done rfl ?_)
        rw [List.drop_eq_nil_of_le (by omega)]; rfl
theorem toStepS_ok (xs : List Stp) (h : smStepS xs) : CallsOK PP F_laws_toStepS [.v (.sl 4 (xs.map rStp))] [.own T_impl_Step 4 40 (xs.map rStp)] := by
  obtain ⟨hlen, hall⟩ := h
  refine S_laws_toStepS rfl (Nat.le_of_ble_eq_true rfl) ?_
  have key : ∀ k : Nat, k ≤ xs.length → L_laws_toStepS_0 PP [(0, .v (.sl 4 (xs.map rStp))), (3, .own T_impl_Step 4 40 (fillRows rStp [.int .i64 0, .str [], .int .i64 0, .int .i64 0] xs k)), (4, .v (.int .i64 k))] [.own T_impl_Step 4 40 (xs.map rStp)] := up xs.length (fun k ih hle => ?_)
  · repeat' (first|refine mid_mks rfl (by rw [List.length_map]; omega) (by rw [List.length_map]; omega) rfl ?_|refine goM rfl ?_|refine goR rfl ?_|refine goX rfl ?_|refine goY rfl ?_)
    refine run_loopF rfl ?_
    rw [List.length_map, ← fillRows_zero rStp _ xs]
    exact key 0 (Nat.zero_le _)
  · repeat' (first|refine goM rfl ?_|refine goR rfl ?_|refine goX rfl ?_|refine goY rfl ?_)
    refine run_cnd_lt (n := (xs.map rStp).length) rfl (fun hk => ?_) (fun hk => ?_)
    · rw [List.length_map] at hk
      repeat' (first|refine mid_idxm rfl rfl hk rfl ?_|refine mid_idxo rfl rfl rfl (by omega) (by rw [fillRows_len _ _ _ hle]; omega) rfl ?_|refine mid_sto_row rfl rfl rfl rfl rfl (fillRows_len1 _ _ _ hk) ?_|refine goM rfl ?_|refine goR rfl ?_|refine goX rfl ?_|refine goY rfl ?_|refine goC (toStep_ok xs[k] (hall _ (List.getElem_mem hk))) rfl rfl rfl rfl ?_)
      refine run_backF rfl ?_
      rw [wsucc (by omega), Int.toNat_natCast]
      have hs := fillRows_set rStp [.int .i64 0, .str [], .int .i64 0, .int .i64 0] xs hk
      simp only [rStp] at hs ⊢
      rw [hs]
      exact ih hk (by omega)
    · rw [List.length_map] at hk
      repeat' (first|refine goM rfl ?_|refine goR rfl ?_|refine goX rfl ?_|refine goY rfl ?_)
      (first|refine run_ret rfl ?_|refine run_done rfl ?_)
      rw [fillRows_all _ _ _ (by omega)]
theorem eqStepS_ok (xs : List Stp) (h : smStepS xs) : CallsOK PP F_laws_eqStepS [.v (.sl 4 (xs.map rStp)), .v (.sl 4 (xs.map rStp))] [.v (.bool true)] := by
  obtain ⟨hlen, hall⟩ := h
  refine S_laws_eqStepS rfl (Nat.le_of_ble_eq_true rfl) ?_
  have key : ∀ k : Nat, L_laws_eqStepS_0 PP [(0, .v (.sl 4 (xs.map rStp))), (1, .v (.sl 4 (xs.map rStp))), (5, .v (.int .i64 k))] [.v (.bool true)] := up xs.length (fun k ih => ?_)
  · repeat' (first|refine run_neI rfl ?_|refine goM rfl ?_|refine goR rfl ?_|refine goX rfl ?_|refine goY rfl ?_)
    refine run_loopF rfl ?_
    exact key 0
  · repeat' (first|refine goM rfl ?_|refine goR rfl ?_|refine goX rfl ?_|refine goY rfl ?_)
    refine run_cnd_lt (n := (xs.map rStp).length) rfl (fun hk => ?_) (fun hk => ?_)
    · rw [List.length_map] at hk
      repeat' (first|refine mid_idxm rfl rfl hk rfl ?_|refine goM rfl ?_|refine goR rfl ?_|refine goX rfl ?_|refine goY rfl ?_|refine goC (eqStep_ok xs[k] (hall _ (List.getElem_mem hk))) rfl rfl rfl rfl ?_)
      refine run_backF rfl ?_
      rw [wsucc (by omega)]
      exact ih hk
    · repeat' (first|refine goM rfl ?_|refine goR rfl ?_|refine goX rfl ?_|refine goY rfl ?_)
      (first|refine run_ret rfl ?_|refine run_done rfl ?_)
      rfl
/- Clue -/
def smClue (x : Clu) : Prop := smStepS x.play
def bgClue (x : Clu) : Prop := bgStepS x.play
def sz_Clue (x : Clu) : Int → Int := seqz [szList sz_Step x.play]
theorem szClue_ok (x : Clu) (l : Int) (h : bgClue x) : CallsOK PP F_laws_szClue [.agg (rClu x), .v (.int .i64 l)] [.v (.int .i64 (sz_Clue x l))] := by
  refine S_laws_szClue rfl (Nat.le_of_ble_eq_true rfl) ?_
  repeat' (first|refine goM rfl ?_|refine goR rfl ?_|refine goX rfl ?_|refine goY rfl ?_|refine goC (szStepS_ok x.play _ (by simp only [bgClue] at h; simp_all)) rfl rfl rfl rfl ?_)
  refine run_sz rfl (fun h0 => ?_) (fun h0 => ?_)
  · repeat' (first|refine goM rfl ?_|refine goR rfl ?_|refine goX rfl ?_|refine goY rfl ?_)
    (first|refine run_ret rfl ?_|refine run_done rfl ?_)
    replace h0 : (szList sz_Step x.play) l < 0 := h0
    simp only [sz_Clue, seqz, h0, if_true, if_false]
  · repeat' (first|refine goM rfl ?_|refine goR rfl ?_|refine goX rfl ?_|refine goY rfl ?_)
    (first|refine run_ret rfl ?_|refine run_done rfl ?_)
    replace h0 : ¬ (szList sz_Step x.play) l < 0 := h0
    simp only [sz_Clue, seqz, h0, if_false]
    try rfl
theorem eqClue_ok (x : Clu) (h : smClue x) : CallsOK PP F_laws_eqClue [.agg (rClu x), .agg (rClu x)] [.v (.bool true)] := by
  refine S_laws_eqClue rfl (Nat.le_of_ble_eq_true rfl) ?_
  repeat' (first|refine run_neI rfl ?_|refine goM rfl ?_|refine goR rfl ?_|refine goX rfl ?_|refine goY rfl ?_|refine goC (eqStepS_ok x.play (by simp only [smClue] at h; simp_all)) rfl rfl rfl rfl ?_)
  (first|refine run_ret rfl ?_|refine run_done rfl ?_)
  rfl
/- ClueS -/
def smClueS (xs : List Clu) : Prop := xs.length ≤ 1048576 ∧ ∀ x ∈ xs, smClue x
def bgClueS (xs : List Clu) : Prop := xs.length ≤ 140737488355328 ∧ ∀ x ∈ xs, bgClue x
theorem szClueS_ok (xs : List Clu) (l : Int) (h : bgClueS xs) : CallsOK PP F_laws_szClueS [.v (.sl 2 (xs.map rClu)), .v (.int .i64 l)] [.v (.int .i64 (szList sz_Clue xs l))] := by
  obtain ⟨hlen, hall⟩ := h
  refine S_laws_szClueS rfl (Nat.le_of_ble_eq_true rfl) ?_
  repeat' (first|refine goM rfl ?_|refine goR rfl ?_|refine goX rfl ?_|refine goY rfl ?_)
  refine run_sz rfl (fun h0 => ?_) (fun h0 => ?_)
  · repeat' (first|refine goM rfl ?_|refine goR rfl ?_|refine goX rfl ?_|refine goY rfl ?_)
    (first|refine run_ret rfl ?_|refine run_done rfl ?_)
    rw [List.length_map] at h0
    replace h0 : wdec xs.length l < 0 := h0
    simp only [szList, h0, if_true]
  · have key : ∀ k : Nat, ∀ l : Int, L_laws_szClueS_0 PP [(0, .v (.sl 2 (xs.map rClu))), (1, .v (.int .i64 l)), (5, .v (.int .i64 k))] [.v (.int .i64 (szLoop sz_Clue (xs.drop k) l))] := up xs.length (fun k ih l => ?_)
    · repeat' (first|refine goM rfl ?_|refine goR rfl ?_|refine goX rfl ?_|refine goY rfl ?_)
      refine run_loopF rfl ?_
      rw [List.length_map] at h0
      replace h0 : ¬ wdec xs.length l < 0 := h0
      rw [List.length_map]
      simp only [szList, h0, if_false]
      exact key 0 _
    · repeat' (first|refine goM rfl ?_|refine goR rfl ?_|refine goX rfl ?_|refine goY rfl ?_)
      refine run_cnd_lt (n := (xs.map rClu).length) rfl (fun hk => ?_) (fun hk => ?_)
      · rw [List.length_map] at hk
        repeat' (first|refine mid_idxm rfl rfl hk rfl ?_|refine goM rfl ?_|refine goR rfl ?_|refine goX rfl ?_|refine goY rfl ?_|refine goC (szClue_ok xs[k] _ (hall _ (List.getElem_mem hk))) rfl rfl rfl rfl ?_)
        rw [List.drop_eq_getElem_cons hk]
        refine run_sz rfl (fun h1 => ?_) (fun h1 => ?_)
        · repeat' (first|refine goM rfl ?_|refine goR rfl ?_|refine goX rfl ?_|refine goY rfl ?_)
          (first|refine run_ret rfl ?_|refine run_done rfl ?_)
          simp [szLoop, h1]
        · repeat' (first|refine goM rfl ?_|refine goR rfl ?_|refine goX rfl ?_|refine goY rfl ?_)
          refine run_backF rfl ?_
          rw [wsucc (by omega)]
          simp only [szLoop, h1, if_false]
          exact ih hk _
      · rw [List.length_map] at hk
        repeat' (first|refine goM rfl ?_|refine goR rfl ?_|refine goX rfl ?_|refine goY rfl ?_)
        (first|refine run_ret rfl ?_|refine run_done rfl ?_)
        rw [List.drop_eq_nil_of_le (by omega)]; rfl
theorem eqClueS_ok (xs : List Clu) (h : smClueS xs) : CallsOK PP F_laws_eqClueS [.v (.sl 2 (xs.map rClu)), .v (.sl 2 (xs.map rClu))] [.v (.bool true)] := by
  obtain ⟨hlen, hall⟩ := h
  refine S_laws_eqClueS rfl (Nat.le_of_ble_eq_true rfl) ?_
  have key : ∀ k : Nat, L_laws_eqClueS_0 PP [(0, .v (.sl 2 (xs.map rClu))), (1, .v (.sl 2 (xs.map rClu))), (5, .v (.int .i64 k))] [.v (.bool true)] := up xs.length (fun k ih => ?_)
  · repeat' (first|refine run_neI rfl ?_|refine goM rfl ?_|refine goR rfl ?_|refine goX rfl ?_|refine goY rfl ?_)
    refine run_loopF rfl ?_
    exact key 0
  · repeat' (first|refine goM rfl ?_|refine goR rfl ?_|refine goX rfl ?_|refine goY rfl ?_)
    refine run_cnd_lt (n := (xs.map rClu).length) rfl (fun hk => ?_) (fun hk => ?_)
    · rw [List.length_map] at hk
      repeat' (first|refine mid_idxm rfl rfl hk rfl ?_|refine goM rfl ?_|refine goR rfl ?_|refine goX rfl ?_|refine goY rfl ?_|refine goC (eqClue_ok xs[k] (hall _ (List.getElem_mem hk))) rfl rfl rfl rfl ?_)
      refine run_backF rfl ?_
      rw [wsucc (by omega)]
      exact ih hk
    · repeat' (first|refine goM rfl ?_|refine goR rfl ?_|refine goX rfl ?_|refine goY rfl ?_)
      (first|refine run_ret rfl ?_|refine run_done rfl ?_)
      rfl
/- Draft -/
def smDraft (x : Dra) : Prop := smGrid x.grid ∧ smClueS x.clues
def bgDraft (x : Dra) : Prop := bgGrid x.grid ∧ x.fill.length ≤ 140737488355328 ∧ bgClueS x.clues
def sz_Draft (x : Dra) : Int → Int := seqz [sz_Grid x.grid, wdec x.fill.length, szList sz_Clue x.clues]
theorem szDraft_ok (x : Dra) (l : Int) (h : bgDraft x) : CallsOK PP F_laws_szDraft [.agg (rDra x), .v (.int .i64 l)] [.v (.int .i64 (sz_Draft x l))] := by
  refine S_laws_szDraft rfl (Nat.le_of_ble_eq_true rfl) ?_
  repeat' (first|refine goM rfl ?_|refine goR rfl ?_|refine goX rfl ?_|refine goY rfl ?_|refine goC (szGrid_ok x.grid _ (by simp only [bgDraft] at h; simp_all)) rfl rfl rfl rfl ?_)
  refine run_sz rfl (fun h0 => ?_) (fun h0 => ?_)
  · repeat' (first|refine goM rfl ?_|refine goR rfl ?_|refine goX rfl ?_|refine goY rfl ?_)
    (first|refine run_ret rfl ?_|refine run_done rfl ?_)
    replace h0 : (sz_Grid x.grid) l < 0 := h0
    simp only [sz_Draft, seqz, h0, if_true, if_false]
  repeat' (first|refine goM rfl ?_|refine goR rfl ?_|refine goX rfl ?_|refine goY rfl ?_)
  refine run_sz rfl (fun h1 => ?_) (fun h1 => ?_)
  · repeat' (first|refine goM rfl ?_|refine goR rfl ?_|refine goX rfl ?_|refine goY rfl ?_)
    (first|refine run_ret rfl ?_|refine run_done rfl ?_)
    replace h0 : ¬ (sz_Grid x.grid) l < 0 := h0
    replace h1 : (wdec x.fill.length) ((sz_Grid x.grid) l) < 0 := h1
    simp only [sz_Draft, seqz, h0, h1, if_true, if_false]
  repeat' (first|refine goM rfl ?_|refine goR rfl ?_|refine goX rfl ?_|refine goY rfl ?_|refine goC (szClueS_ok x.clues _ (by simp only [bgDraft] at h; simp_all)) rfl rfl rfl rfl ?_)
  refine run_sz rfl (fun h2 => ?_) (fun h2 => ?_)
  · repeat' (first|refine goM rfl ?_|refine goR rfl ?_|refine goX rfl ?_|refine goY rfl ?_)
    (first|refine run_ret rfl ?_|refine run_done rfl ?_)
    replace h0 : ¬ (sz_Grid x.grid) l < 0 := h0
    replace h1 : ¬ (wdec x.fill.length) ((sz_Grid x.grid) l) < 0 := h1
    replace h2 : (szList sz_Clue x.clues) ((wdec x.fill.length) ((sz_Grid x.grid) l)) < 0 := h2
    simp only [sz_Draft, seqz, h0, h1, h2, if_true, if_false]
  · repeat' (first|refine goM rfl ?_|refine goR rfl ?_|refine goX rfl ?_|refine goY rfl ?_)
    (first|refine run_ret rfl ?_|refine run_done rfl ?_)
    replace h0 : ¬ (sz_Grid x.grid) l < 0 := h0
    replace h1 : ¬ (wdec x.fill.length) ((sz_Grid x.grid) l) < 0 := h1
    replace h2 : ¬ (szList sz_Clue x.clues) ((wdec x.fill.length) ((sz_Grid x.grid) l)) < 0 := h2
    simp only [sz_Draft, seqz, h0, h1, h2, if_false]
    try rfl
theorem eqDraft_ok (x : Dra) (h : smDraft x) : CallsOK PP F_laws_eqDraft [.agg (rDra x), .agg (rDra x)] [.v (.bool true)] := by
  refine S_laws_eqDraft rfl (Nat.le_of_ble_eq_true rfl) ?_
  repeat' (first|refine run_neI rfl ?_|refine run_neS rfl ?_|refine goM rfl ?_|refine goR rfl ?_|refine goX rfl ?_|refine goY rfl ?_|refine goC (eqGrid_ok x.grid (by simp only [smDraft] at h; simp_all)) rfl rfl rfl rfl ?_|refine goC (eqClueS_ok x.clues (by simp only [smDraft] at h; simp_all)) rfl rfl rfl rfl ?_)
  (first|refine run_ret rfl ?_|refine run_done rfl ?_)
  rfl
/- IntS -/
def smIntS (xs : List Int) : Prop := xs.length ≤ 1048576 ∧ True
def bgIntS (xs : List Int) : Prop := xs.length ≤ 140737488355328 ∧ True
def sz_IntS (xs : List Int) (l : Int) : Int := if wdec xs.length l < 0 then -1 else wdec xs.length l
theorem szIntS_ok (xs : List Int) (l : Int) (h : bgIntS xs) : CallsOK PP F_laws_szIntS [.v (.sl 1 (xs.map rI)), .v (.int .i64 l)] [.v (.int .i64 (sz_IntS xs l))] := by
  refine S_laws_szIntS rfl (Nat.le_of_ble_eq_true rfl) ?_
  repeat' (first|refine goM rfl ?_|refine goR rfl ?_|refine goX rfl ?_|refine goY rfl ?_)
  refine run_sz rfl (fun h0 => ?_) (fun h0 => ?_)
  all_goals repeat' (first | refine goM rfl ?_ | refine goR rfl ?_ | refine goX rfl ?_ | refine goY rfl ?_)
  all_goals (first|refine run_ret rfl ?_|refine run_done rfl ?_)
  all_goals rw [List.length_map] at h0
  all_goals simp [sz_IntS, wdec, h0]
theorem toIntS_ok (xs : List Int) (h : smIntS xs) : CallsOK PP F_laws_toIntS [.v (.sl 1 (xs.map rI))] [.own T_int 1 8 (xs.map rI)] := by
  obtain ⟨hlen, hall⟩ := h
  refine S_laws_toIntS rfl (Nat.le_of_ble_eq_true rfl) ?_
  have key : ∀ k : Nat, k ≤ xs.length → L_laws_toIntS_0 PP [(0, .v (.sl 1 (xs.map rI))), (3, .own T_int 1 8 (fillRows rI [.int .i64 0] xs k)), (4, .v (.int .i64 k))] [.own T_int 1 8 (xs.map rI)] := up xs.length (fun k ih hle => ?_)
  · repeat' (first|refine mid_mks rfl (by rw [List.length_map]; omega) (by rw [List.length_map]; omega) rfl ?_|refine goM rfl ?_|refine goR rfl ?_|refine goX rfl ?_|refine goY rfl ?_)
    refine run_loopF rfl ?_
    rw [List.length_map, ← fillRows_zero rI _ xs]
    exact key 0 (Nat.zero_le _)
  · repeat' (first|refine goM rfl ?_|refine goR rfl ?_|refine goX rfl ?_|refine goY rfl ?_)
    refine run_cnd_lt (n := (xs.map rI).length) rfl (fun hk => ?_) (fun hk => ?_)
    · rw [List.length_map] at hk
      repeat' (first|refine mid_idxm rfl rfl hk rfl ?_|refine mid_idxo rfl rfl rfl (by omega) (by rw [fillRows_len _ _ _ hle]; omega) rfl ?_|refine mid_sto_one rfl rfl rfl rfl (fillRows_len1 _ _ _ hk) ?_|refine goM rfl ?_|refine goR rfl ?_|refine goX rfl ?_|refine goY rfl ?_)
      refine run_backF rfl ?_
      rw [wsucc (by omega), Int.toNat_natCast]
      have hs := fillRows_set rI [.int .i64 0] xs hk
      simp only [rI] at hs ⊢
      rw [hs]
      exact ih hk (by omega)
    · rw [List.length_map] at hk
      repeat' (first|refine goM rfl ?_|refine goR rfl ?_|refine goX rfl ?_|refine goY rfl ?_)
      (first|refine run_ret rfl ?_|refine run_done rfl ?_)
      rw [fillRows_all _ _ _ (by omega)]
theorem eqIntS_ok (xs : List Int) (h : smIntS xs) : CallsOK PP F_laws_eqIntS [.v (.sl 1 (xs.map rI)), .v (.sl 1 (xs.map rI))] [.v (.bool true)] := by
  obtain ⟨hlen, hall⟩ := h
  refine S_laws_eqIntS rfl (Nat.le_of_ble_eq_true rfl) ?_
  have key : ∀ k : Nat, L_laws_eqIntS_0 PP [(0, .v (.sl 1 (xs.map rI))), (1, .v (.sl 1 (xs.map rI))), (5, .v (.int .i64 k))] [.v (.bool true)] := up xs.length (fun k ih => ?_)
  · repeat' (first|refine run_neI rfl ?_|refine goM rfl ?_|refine goR rfl ?_|refine goX rfl ?_|refine goY rfl ?_)
    refine run_loopF rfl ?_
    exact key 0
  · repeat' (first|refine goM rfl ?_|refine goR rfl ?_|refine goX rfl ?_|refine goY rfl ?_)
    refine run_cnd_lt (n := (xs.map rI).length) rfl (fun hk => ?_) (fun hk => ?_)
    · rw [List.length_map] at hk
      repeat' (first|refine run_neI rfl ?_|refine mid_idxm rfl rfl hk rfl ?_|refine goM rfl ?_|refine goR rfl ?_|refine goX rfl ?_|refine goY rfl ?_)
      refine run_backF rfl ?_
      rw [wsucc (by omega)]
      exact ih hk
    · repeat' (first|refine goM rfl ?_|refine goR rfl ?_|refine goX rfl ?_|refine goY rfl ?_)
      (first|refine run_ret rfl ?_|refine run_done rfl ?_)
      rfl
/- Puzzle -/
def smPuzzle (x : Puz) : Prop := smGrid x.grid ∧ smClueS x.clues ∧ smIntS x.seals
def bgPuzzle (x : Puz) : Prop := bgGrid x.grid ∧ bgClueS x.clues ∧ bgIntS x.seals
def sz_Puzzle (x : Puz) : Int → Int := seqz [sz_Grid x.grid, szList sz_Clue x.clues, sz_IntS x.seals]
theorem szPuzzle_ok (x : Puz) (l : Int) (h : bgPuzzle x) : CallsOK PP F_laws_szPuzzle [.agg (rPuz x), .v (.int .i64 l)] [.v (.int .i64 (sz_Puzzle x l))] := by
  refine S_laws_szPuzzle rfl (Nat.le_of_ble_eq_true rfl) ?_
  repeat' (first|refine goM rfl ?_|refine goR rfl ?_|refine goX rfl ?_|refine goY rfl ?_|refine goC (szGrid_ok x.grid _ (by simp only [bgPuzzle] at h; simp_all)) rfl rfl rfl rfl ?_)
  refine run_sz rfl (fun h0 => ?_) (fun h0 => ?_)
  · repeat' (first|refine goM rfl ?_|refine goR rfl ?_|refine goX rfl ?_|refine goY rfl ?_)
    (first|refine run_ret rfl ?_|refine run_done rfl ?_)
    replace h0 : (sz_Grid x.grid) l < 0 := h0
    simp only [sz_Puzzle, seqz, h0, if_true, if_false]
  repeat' (first|refine goM rfl ?_|refine goR rfl ?_|refine goX rfl ?_|refine goY rfl ?_|refine goC (szClueS_ok x.clues _ (by simp only [bgPuzzle] at h; simp_all)) rfl rfl rfl rfl ?_)
  refine run_sz rfl (fun h1 => ?_) (fun h1 => ?_)
  · repeat' (first|refine goM rfl ?_|refine goR rfl ?_|refine goX rfl ?_|refine goY rfl ?_)
    (first|refine run_ret rfl ?_|refine run_done rfl ?_)
    replace h0 : ¬ (sz_Grid x.grid) l < 0 := h0
    replace h1 : (szList sz_Clue x.clues) ((sz_Grid x.grid) l) < 0 := h1
    simp only [sz_Puzzle, seqz, h0, h1, if_true, if_false]
  repeat' (first|refine goM rfl ?_|refine goR rfl ?_|refine goX rfl ?_|refine goY rfl ?_|refine goC (szIntS_ok x.seals _ (by simp only [bgPuzzle] at h; simp_all)) rfl rfl rfl rfl ?_)
  refine run_sz rfl (fun h2 => ?_) (fun h2 => ?_)
  · repeat' (first|refine goM rfl ?_|refine goR rfl ?_|refine goX rfl ?_|refine goY rfl ?_)
    (first|refine run_ret rfl ?_|refine run_done rfl ?_)
    replace h0 : ¬ (sz_Grid x.grid) l < 0 := h0
    replace h1 : ¬ (szList sz_Clue x.clues) ((sz_Grid x.grid) l) < 0 := h1
    replace h2 : (sz_IntS x.seals) ((szList sz_Clue x.clues) ((sz_Grid x.grid) l)) < 0 := h2
    simp only [sz_Puzzle, seqz, h0, h1, h2, if_true, if_false]
  · repeat' (first|refine goM rfl ?_|refine goR rfl ?_|refine goX rfl ?_|refine goY rfl ?_)
    (first|refine run_ret rfl ?_|refine run_done rfl ?_)
    replace h0 : ¬ (sz_Grid x.grid) l < 0 := h0
    replace h1 : ¬ (szList sz_Clue x.clues) ((sz_Grid x.grid) l) < 0 := h1
    replace h2 : ¬ (sz_IntS x.seals) ((szList sz_Clue x.clues) ((sz_Grid x.grid) l)) < 0 := h2
    simp only [sz_Puzzle, seqz, h0, h1, h2, if_false]
    try rfl
theorem eqPuzzle_ok (x : Puz) (h : smPuzzle x) : CallsOK PP F_laws_eqPuzzle [.agg (rPuz x), .agg (rPuz x)] [.v (.bool true)] := by
  refine S_laws_eqPuzzle rfl (Nat.le_of_ble_eq_true rfl) ?_
  repeat' (first|refine run_neI rfl ?_|refine goM rfl ?_|refine goR rfl ?_|refine goX rfl ?_|refine goY rfl ?_|refine goC (eqGrid_ok x.grid (by simp only [smPuzzle] at h; simp_all)) rfl rfl rfl rfl ?_|refine goC (eqClueS_ok x.clues (by simp only [smPuzzle] at h; simp_all)) rfl rfl rfl rfl ?_|refine goC (eqIntS_ok x.seals (by simp only [smPuzzle] at h; simp_all)) rfl rfl rfl rfl ?_)
  (first|refine run_ret rfl ?_|refine run_done rfl ?_)
  rfl
/- Issue -/
def smIssue (x : Iss) : Prop := smPuzzle x.puz
def bgIssue (x : Iss) : Prop := bgPuzzle x.puz ∧ x.fill.length ≤ 140737488355328
def sz_Issue (x : Iss) : Int → Int := seqz [sz_Puzzle x.puz, wdec x.fill.length]
theorem szIssue_ok (x : Iss) (l : Int) (h : bgIssue x) : CallsOK PP F_laws_szIssue [.agg (rIss x), .v (.int .i64 l)] [.v (.int .i64 (sz_Issue x l))] := by
  refine S_laws_szIssue rfl (Nat.le_of_ble_eq_true rfl) ?_
  repeat' (first|refine goM rfl ?_|refine goR rfl ?_|refine goX rfl ?_|refine goY rfl ?_|refine goC (szPuzzle_ok x.puz _ (by simp only [bgIssue] at h; simp_all)) rfl rfl rfl rfl ?_)
  refine run_sz rfl (fun h0 => ?_) (fun h0 => ?_)
  · repeat' (first|refine goM rfl ?_|refine goR rfl ?_|refine goX rfl ?_|refine goY rfl ?_)
    (first|refine run_ret rfl ?_|refine run_done rfl ?_)
    replace h0 : (sz_Puzzle x.puz) l < 0 := h0
    simp only [sz_Issue, seqz, h0, if_true, if_false]
  repeat' (first|refine goM rfl ?_|refine goR rfl ?_|refine goX rfl ?_|refine goY rfl ?_)
  refine run_sz rfl (fun h1 => ?_) (fun h1 => ?_)
  · repeat' (first|refine goM rfl ?_|refine goR rfl ?_|refine goX rfl ?_|refine goY rfl ?_)
    (first|refine run_ret rfl ?_|refine run_done rfl ?_)
    replace h0 : ¬ (sz_Puzzle x.puz) l < 0 := h0
    replace h1 : (wdec x.fill.length) ((sz_Puzzle x.puz) l) < 0 := h1
    simp only [sz_Issue, seqz, h0, h1, if_true, if_false]
  · repeat' (first|refine goM rfl ?_|refine goR rfl ?_|refine goX rfl ?_|refine goY rfl ?_)
    (first|refine run_ret rfl ?_|refine run_done rfl ?_)
    replace h0 : ¬ (sz_Puzzle x.puz) l < 0 := h0
    replace h1 : ¬ (wdec x.fill.length) ((sz_Puzzle x.puz) l) < 0 := h1
    simp only [sz_Issue, seqz, h0, h1, if_false]
    try rfl
theorem eqIssue_ok (x : Iss) (h : smIssue x) : CallsOK PP F_laws_eqIssue [.agg (rIss x), .agg (rIss x)] [.v (.bool true)] := by
  refine S_laws_eqIssue rfl (Nat.le_of_ble_eq_true rfl) ?_
  repeat' (first|refine run_neI rfl ?_|refine run_neS rfl ?_|refine goM rfl ?_|refine goR rfl ?_|refine goX rfl ?_|refine goY rfl ?_|refine goC (eqPuzzle_ok x.puz (by simp only [smIssue] at h; simp_all)) rfl rfl rfl rfl ?_)
  (first|refine run_ret rfl ?_|refine run_done rfl ?_)
  rfl
/- IssueS -/
def smIssueS (xs : List Iss) : Prop := xs.length ≤ 1048576 ∧ ∀ x ∈ xs, smIssue x
def bgIssueS (xs : List Iss) : Prop := xs.length ≤ 140737488355328 ∧ ∀ x ∈ xs, bgIssue x
theorem szIssueS_ok (xs : List Iss) (l : Int) (h : bgIssueS xs) : CallsOK PP F_laws_szIssueS [.v (.sl 10 (xs.map rIss)), .v (.int .i64 l)] [.v (.int .i64 (szList sz_Issue xs l))] := by
  obtain ⟨hlen, hall⟩ := h
  refine S_laws_szIssueS rfl (Nat.le_of_ble_eq_true rfl) ?_
  repeat' (first|refine goM rfl ?_|refine goR rfl ?_|refine goX rfl ?_|refine goY rfl ?_)
  refine run_sz rfl (fun h0 => ?_) (fun h0 => ?_)
  · repeat' (first|refine goM rfl ?_|refine goR rfl ?_|refine goX rfl ?_|refine goY rfl ?_)
    (first|refine run_ret rfl ?_|refine run_done rfl ?_)
    rw [List.length_map] at h0
    replace h0 : wdec xs.length l < 0 := h0
    simp only [szList, h0, if_true]
  · have key : ∀ k : Nat, ∀ l : Int, L_laws_szIssueS_0 PP [(0, .v (.sl 10 (xs.map rIss))), (1, .v (.int .i64 l)), (5, .v (.int .i64 k))] [.v (.int .i64 (szLoop sz_Issue (xs.drop k) l))] := up xs.length (fun k ih l => ?_)
    · repeat' (first|refine goM rfl ?_|refine goR rfl ?_|refine goX rfl ?_|refine goY rfl ?_)
      refine run_loopF rfl ?_
      rw [List.length_map] at h0
      replace h0 : ¬ wdec xs.length l < 0 := h0
      rw [List.length_map]
      simp only [szList, h0, if_false]
      exact key 0 _
    · repeat' (first|refine goM rfl ?_|refine goR rfl ?_|refine goX rfl ?_|refine goY rfl ?_)
      refine run_cnd_lt (n := (xs.map rIss).length) rfl (fun hk => ?_) (fun hk => ?_)
      · rw [List.length_map] at hk
        repeat' (first|refine mid_idxm rfl rfl hk rfl ?_|refine goM rfl ?_|refine goR rfl ?_|refine goX rfl ?_|refine goY rfl ?_|refine goC (szIssue_ok xs[k] _ (hall _ (List.getElem_mem hk))) rfl rfl rfl rfl ?_)
        rw [List.drop_eq_getElem_cons hk]
        refine run_sz rfl (fun h1 => ?_) (fun h1 => ?_)
        · repeat' (first|refine goM rfl ?_|refine goR rfl ?_|refine goX rfl ?_|refine goY rfl ?_)
          (first|refine run_ret rfl ?_|refine run_done rfl ?_)
          simp [szLoop, h1]
        · repeat' (first|refine goM rfl ?_|refine goR rfl ?_|refine goX rfl ?_|refine goY rfl ?_)
          refine run_backF rfl ?_
          rw [wsucc (by omega)]
          simp only [szLoop, h1, if_false]
          exact ih hk _
      · rw [List.length_map] at hk
        repeat' (first|refine goM rfl ?_|refine goR rfl ?_|refine goX rfl ?_|refine goY rfl ?_)
        (first|refine run_ret rfl ?_|refine run_done rfl ?_)
        rw [List.drop_eq_nil_of_le (by omega)]; rfl
theorem eqIssueS_ok (xs : List Iss) (h : smIssueS xs) : CallsOK PP F_laws_eqIssueS [.v (.sl 10 (xs.map rIss)), .v (.sl 10 (xs.map rIss))] [.v (.bool true)] := by
  obtain ⟨hlen, hall⟩ := h
  refine S_laws_eqIssueS rfl (Nat.le_of_ble_eq_true rfl) ?_
  have key : ∀ k : Nat, L_laws_eqIssueS_0 PP [(0, .v (.sl 10 (xs.map rIss))), (1, .v (.sl 10 (xs.map rIss))), (5, .v (.int .i64 k))] [.v (.bool true)] := up xs.length (fun k ih => ?_)
  · repeat' (first|refine run_neI rfl ?_|refine goM rfl ?_|refine goR rfl ?_|refine goX rfl ?_|refine goY rfl ?_)
    refine run_loopF rfl ?_
    exact key 0
  · repeat' (first|refine goM rfl ?_|refine goR rfl ?_|refine goX rfl ?_|refine goY rfl ?_)
    refine run_cnd_lt (n := (xs.map rIss).length) rfl (fun hk => ?_) (fun hk => ?_)
    · rw [List.length_map] at hk
      repeat' (first|refine mid_idxm rfl rfl hk rfl ?_|refine goM rfl ?_|refine goR rfl ?_|refine goX rfl ?_|refine goY rfl ?_|refine goC (eqIssue_ok xs[k] (hall _ (List.getElem_mem hk))) rfl rfl rfl rfl ?_)
      refine run_backF rfl ?_
      rw [wsucc (by omega)]
      exact ih hk
    · repeat' (first|refine goM rfl ?_|refine goR rfl ?_|refine goX rfl ?_|refine goY rfl ?_)
      (first|refine run_ret rfl ?_|refine run_done rfl ?_)
      rfl
/- Used -/
def smUsed (x : Use) : Prop := True
def bgUsed (x : Use) : Prop := x.word.length ≤ 140737488355328
def sz_Used (x : Use) : Int → Int := seqz [wdec x.word.length]
theorem szUsed_ok (x : Use) (l : Int) (h : bgUsed x) : CallsOK PP F_laws_szUsed [.agg (rUse x), .v (.int .i64 l)] [.v (.int .i64 (sz_Used x l))] := by
  refine S_laws_szUsed rfl (Nat.le_of_ble_eq_true rfl) ?_
  repeat' (first|refine goM rfl ?_|refine goR rfl ?_|refine goX rfl ?_|refine goY rfl ?_)
  refine run_sz rfl (fun h0 => ?_) (fun h0 => ?_)
  · repeat' (first|refine goM rfl ?_|refine goR rfl ?_|refine goX rfl ?_|refine goY rfl ?_)
    (first|refine run_ret rfl ?_|refine run_done rfl ?_)
    replace h0 : (wdec x.word.length) l < 0 := h0
    simp only [sz_Used, seqz, h0, if_true, if_false]
  · repeat' (first|refine goM rfl ?_|refine goR rfl ?_|refine goX rfl ?_|refine goY rfl ?_)
    (first|refine run_ret rfl ?_|refine run_done rfl ?_)
    replace h0 : ¬ (wdec x.word.length) l < 0 := h0
    simp only [sz_Used, seqz, h0, if_false]
    try rfl
theorem toUsed_ok (x : Use) (h : smUsed x) : CallsOK PP F_laws_toUsed [.agg (rUse x)] [.agg (rUse x)] := by
  refine S_laws_toUsed rfl (Nat.le_of_ble_eq_true rfl) ?_
  repeat' (first|refine goM rfl ?_|refine goR rfl ?_|refine goX rfl ?_|refine goY rfl ?_)
  (first|refine run_ret rfl ?_|refine run_done rfl ?_)
  rfl
theorem eqUsed_ok (x : Use) (h : smUsed x) : CallsOK PP F_laws_eqUsed [.agg (rUse x), .agg (rUse x)] [.v (.bool true)] := by
  refine S_laws_eqUsed rfl (Nat.le_of_ble_eq_true rfl) ?_
  repeat' (first|refine run_neI rfl ?_|refine run_neS rfl ?_|refine goM rfl ?_|refine goR rfl ?_|refine goX rfl ?_|refine goY rfl ?_)
  (first|refine run_ret rfl ?_|refine run_done rfl ?_)
  rfl
/- UsedS -/
def smUsedS (xs : List Use) : Prop := xs.length ≤ 1048576 ∧ ∀ x ∈ xs, smUsed x
def bgUsedS (xs : List Use) : Prop := xs.length ≤ 140737488355328 ∧ ∀ x ∈ xs, bgUsed x
theorem szUsedS_ok (xs : List Use) (l : Int) (h : bgUsedS xs) : CallsOK PP F_laws_szUsedS [.v (.sl 2 (xs.map rUse)), .v (.int .i64 l)] [.v (.int .i64 (szList sz_Used xs l))] := by
  obtain ⟨hlen, hall⟩ := h
  refine S_laws_szUsedS rfl (Nat.le_of_ble_eq_true rfl) ?_
  repeat' (first|refine goM rfl ?_|refine goR rfl ?_|refine goX rfl ?_|refine goY rfl ?_)
  refine run_sz rfl (fun h0 => ?_) (fun h0 => ?_)
  · repeat' (first|refine goM rfl ?_|refine goR rfl ?_|refine goX rfl ?_|refine goY rfl ?_)
    (first|refine run_ret rfl ?_|refine run_done rfl ?_)
    rw [List.length_map] at h0
    replace h0 : wdec xs.length l < 0 := h0
    simp only [szList, h0, if_true]
  · have key : ∀ k : Nat, ∀ l : Int, L_laws_szUsedS_0 PP [(0, .v (.sl 2 (xs.map rUse))), (1, .v (.int .i64 l)), (5, .v (.int .i64 k))] [.v (.int .i64 (szLoop sz_Used (xs.drop k) l))] := up xs.length (fun k ih l => ?_)
    · repeat' (first|refine goM rfl ?_|refine goR rfl ?_|refine goX rfl ?_|refine goY rfl ?_)
      refine run_loopF rfl ?_
      rw [List.length_map] at h0
      replace h0 : ¬ wdec xs.length l < 0 := h0
      rw [List.length_map]
      simp only [szList, h0, if_false]
      exact key 0 _
    · repeat' (first|refine goM rfl ?_|refine goR rfl ?_|refine goX rfl ?_|refine goY rfl ?_)
      refine run_cnd_lt (n := (xs.map rUse).length) rfl (fun hk => ?_) (fun hk => ?_)
      · rw [List.length_map] at hk
        repeat' (first|refine mid_idxm rfl rfl hk rfl ?_|refine goM rfl ?_|refine goR rfl ?_|refine goX rfl ?_|refine goY rfl ?_|refine goC (szUsed_ok xs[k] _ (hall _ (List.getElem_mem hk))) rfl rfl rfl rfl ?_)
        rw [List.drop_eq_getElem_cons hk]
        refine run_sz rfl (fun h1 => ?_) (fun h1 => ?_)
        · repeat' (first|refine goM rfl ?_|refine goR rfl ?_|refine goX rfl ?_|refine goY rfl ?_)
          (first|refine run_ret rfl ?_|refine run_done rfl ?_)
          simp [szLoop, h1]
        · repeat' (first|refine goM rfl ?_|refine goR rfl ?_|refine goX rfl ?_|refine goY rfl ?_)
          refine run_backF rfl ?_
          rw [wsucc (by omega)]
          simp only [szLoop, h1, if_false]
          exact ih hk _
      · rw [List.length_map] at hk
        repeat' (first|refine goM rfl ?_|refine goR rfl ?_|refine goX rfl ?_|refine goY rfl ?_)
        (first|refine run_ret rfl ?_|refine run_done rfl ?_)
        rw [List.drop_eq_nil_of_le (by omega)]; rfl
theorem toUsedS_ok (xs : List Use) (h : smUsedS xs) : CallsOK PP F_laws_toUsedS [.v (.sl 2 (xs.map rUse))] [.own T_impl_Used 2 24 (xs.map rUse)] := by
  obtain ⟨hlen, hall⟩ := h
  refine S_laws_toUsedS rfl (Nat.le_of_ble_eq_true rfl) ?_
  have key : ∀ k : Nat, k ≤ xs.length → L_laws_toUsedS_0 PP [(0, .v (.sl 2 (xs.map rUse))), (3, .own T_impl_Used 2 24 (fillRows rUse [.str [], .int .i64 0] xs k)), (4, .v (.int .i64 k))] [.own T_impl_Used 2 24 (xs.map rUse)] := up xs.length (fun k ih hle => ?_)
  · repeat' (first|refine mid_mks rfl (by rw [List.length_map]; omega) (by rw [List.length_map]; omega) rfl ?_|refine goM rfl ?_|refine goR rfl ?_|refine goX rfl ?_|refine goY rfl ?_)
    refine run_loopF rfl ?_
    rw [List.length_map, ← fillRows_zero rUse _ xs]
    exact key 0 (Nat.zero_le _)
  · repeat' (first|refine goM rfl ?_|refine goR rfl ?_|refine goX rfl ?_|refine goY rfl ?_)
    refine run_cnd_lt (n := (xs.map rUse).length) rfl (fun hk => ?_) (fun hk => ?_)
    · rw [List.length_map] at hk
      repeat' (first|refine mid_idxm rfl rfl hk rfl ?_|refine mid_idxo rfl rfl rfl (by omega) (by rw [fillRows_len _ _ _ hle]; omega) rfl ?_|refine mid_sto_row rfl rfl rfl rfl rfl (fillRows_len1 _ _ _ hk) ?_|refine goM rfl ?_|refine goR rfl ?_|refine goX rfl ?_|refine goY rfl ?_|refine goC (toUsed_ok xs[k] (hall _ (List.getElem_mem hk))) rfl rfl rfl rfl ?_)
      refine run_backF rfl ?_
      rw [wsucc (by omega), Int.toNat_natCast]
      have hs := fillRows_set rUse [.str [], .int .i64 0] xs hk
      simp only [rUse] at hs ⊢
      rw [hs]
      exact ih hk (by omega)
    · rw [List.length_map] at hk
      repeat' (first|refine goM rfl ?_|refine goR rfl ?_|refine goX rfl ?_|refine goY rfl ?_)
      (first|refine run_ret rfl ?_|refine run_done rfl ?_)
      rw [fillRows_all _ _ _ (by omega)]
theorem eqUsedS_ok (xs : List Use) (h : smUsedS xs) : CallsOK PP F_laws_eqUsedS [.v (.sl 2 (xs.map rUse)), .v (.sl 2 (xs.map rUse))] [.v (.bool true)] := by
  obtain ⟨hlen, hall⟩ := h
  refine S_laws_eqUsedS rfl (Nat.le_of_ble_eq_true rfl) ?_
  have key : ∀ k : Nat, L_laws_eqUsedS_0 PP [(0, .v (.sl 2 (xs.map rUse))), (1, .v (.sl 2 (xs.map rUse))), (5, .v (.int .i64 k))] [.v (.bool true)] := up xs.length (fun k ih => ?_)
  · repeat' (first|refine run_neI rfl ?_|refine goM rfl ?_|refine goR rfl ?_|refine goX rfl ?_|refine goY rfl ?_)
    refine run_loopF rfl ?_
    exact key 0
  · repeat' (first|refine goM rfl ?_|refine goR rfl ?_|refine goX rfl ?_|refine goY rfl ?_)
    refine run_cnd_lt (n := (xs.map rUse).length) rfl (fun hk => ?_) (fun hk => ?_)
    · rw [List.length_map] at hk
      repeat' (first|refine mid_idxm rfl rfl hk rfl ?_|refine goM rfl ?_|refine goR rfl ?_|refine goX rfl ?_|refine goY rfl ?_|refine goC (eqUsed_ok xs[k] (hall _ (List.getElem_mem hk))) rfl rfl rfl rfl ?_)
      refine run_backF rfl ?_
      rw [wsucc (by omega)]
      exact ih hk
    · repeat' (first|refine goM rfl ?_|refine goR rfl ?_|refine goX rfl ?_|refine goY rfl ?_)
      (first|refine run_ret rfl ?_|refine run_done rfl ?_)
      rfl
/- Correction -/
def smCorrection (x : Cor) : Prop := smClue x.clue
def bgCorrection (x : Cor) : Prop := bgClue x.clue
def sz_Correction (x : Cor) : Int → Int := seqz [sz_Clue x.clue]
theorem szCorrection_ok (x : Cor) (l : Int) (h : bgCorrection x) : CallsOK PP F_laws_szCorrection [.agg (rCor x), .v (.int .i64 l)] [.v (.int .i64 (sz_Correction x l))] := by
  refine S_laws_szCorrection rfl (Nat.le_of_ble_eq_true rfl) ?_
  repeat' (first|refine goM rfl ?_|refine goR rfl ?_|refine goX rfl ?_|refine goY rfl ?_|refine goC (szClue_ok x.clue _ (by simp only [bgCorrection] at h; simp_all)) rfl rfl rfl rfl ?_)
  refine run_sz rfl (fun h0 => ?_) (fun h0 => ?_)
  · repeat' (first|refine goM rfl ?_|refine goR rfl ?_|refine goX rfl ?_|refine goY rfl ?_)
    (first|refine run_ret rfl ?_|refine run_done rfl ?_)
    replace h0 : (sz_Clue x.clue) l < 0 := h0
    simp only [sz_Correction, seqz, h0, if_true, if_false]
  · repeat' (first|refine goM rfl ?_|refine goR rfl ?_|refine goX rfl ?_|refine goY rfl ?_)
    (first|refine run_ret rfl ?_|refine run_done rfl ?_)
    replace h0 : ¬ (sz_Clue x.clue) l < 0 := h0
    simp only [sz_Correction, seqz, h0, if_false]
    try rfl
theorem eqCorrection_ok (x : Cor) (h : smCorrection x) : CallsOK PP F_laws_eqCorrection [.agg (rCor x), .agg (rCor x)] [.v (.bool true)] := by
  refine S_laws_eqCorrection rfl (Nat.le_of_ble_eq_true rfl) ?_
  repeat' (first|refine run_neI rfl ?_|refine goM rfl ?_|refine goR rfl ?_|refine goX rfl ?_|refine goY rfl ?_|refine goC (eqClue_ok x.clue (by simp only [smCorrection] at h; simp_all)) rfl rfl rfl rfl ?_)
  (first|refine run_ret rfl ?_|refine run_done rfl ?_)
  rfl
/- CorrectionS -/
def smCorrectionS (xs : List Cor) : Prop := xs.length ≤ 1048576 ∧ ∀ x ∈ xs, smCorrection x
def bgCorrectionS (xs : List Cor) : Prop := xs.length ≤ 140737488355328 ∧ ∀ x ∈ xs, bgCorrection x
theorem szCorrectionS_ok (xs : List Cor) (l : Int) (h : bgCorrectionS xs) : CallsOK PP F_laws_szCorrectionS [.v (.sl 5 (xs.map rCor)), .v (.int .i64 l)] [.v (.int .i64 (szList sz_Correction xs l))] := by
  obtain ⟨hlen, hall⟩ := h
  refine S_laws_szCorrectionS rfl (Nat.le_of_ble_eq_true rfl) ?_
  repeat' (first|refine goM rfl ?_|refine goR rfl ?_|refine goX rfl ?_|refine goY rfl ?_)
  refine run_sz rfl (fun h0 => ?_) (fun h0 => ?_)
  · repeat' (first|refine goM rfl ?_|refine goR rfl ?_|refine goX rfl ?_|refine goY rfl ?_)
    (first|refine run_ret rfl ?_|refine run_done rfl ?_)
    rw [List.length_map] at h0
    replace h0 : wdec xs.length l < 0 := h0
    simp only [szList, h0, if_true]
  · have key : ∀ k : Nat, ∀ l : Int, L_laws_szCorrectionS_0 PP [(0, .v (.sl 5 (xs.map rCor))), (1, .v (.int .i64 l)), (5, .v (.int .i64 k))] [.v (.int .i64 (szLoop sz_Correction (xs.drop k) l))] := up xs.length (fun k ih l => ?_)
    · repeat' (first|refine goM rfl ?_|refine goR rfl ?_|refine goX rfl ?_|refine goY rfl ?_)
      refine run_loopF rfl ?_
      rw [List.length_map] at h0
      replace h0 : ¬ wdec xs.length l < 0 := h0
      rw [List.length_map]
      simp only [szList, h0, if_false]
      exact key 0 _
    · repeat' (first|refine goM rfl ?_|refine goR rfl ?_|refine goX rfl ?_|refine goY rfl ?_)
      refine run_cnd_lt (n := (xs.map rCor).length) rfl (fun hk => ?_) (fun hk => ?_)
      · rw [List.length_map] at hk
        repeat' (first|refine mid_idxm rfl rfl hk rfl ?_|refine goM rfl ?_|refine goR rfl ?_|refine goX rfl ?_|refine goY rfl ?_|refine goC (szCorrection_ok xs[k] _ (hall _ (List.getElem_mem hk))) rfl rfl rfl rfl ?_)
        rw [List.drop_eq_getElem_cons hk]
        refine run_sz rfl (fun h1 => ?_) (fun h1 => ?_)
        · repeat' (first|refine goM rfl ?_|refine goR rfl ?_|refine goX rfl ?_|refine goY rfl ?_)
          (first|refine run_ret rfl ?_|refine run_done rfl ?_)
          simp [szLoop, h1]
        · repeat' (first|refine goM rfl ?_|refine goR rfl ?_|refine goX rfl ?_|refine goY rfl ?_)
          refine run_backF rfl ?_
          rw [wsucc (by omega)]
          simp only [szLoop, h1, if_false]
          exact ih hk _
      · rw [List.length_map] at hk
        repeat' (first|refine goM rfl ?_|refine goR rfl ?_|refine goX rfl ?_|refine goY rfl ?_)
        (first|refine run_ret rfl ?_|refine run_done rfl ?_)
        rw [List.drop_eq_nil_of_le (by omega)]; rfl
theorem eqCorrectionS_ok (xs : List Cor) (h : smCorrectionS xs) : CallsOK PP F_laws_eqCorrectionS [.v (.sl 5 (xs.map rCor)), .v (.sl 5 (xs.map rCor))] [.v (.bool true)] := by
  obtain ⟨hlen, hall⟩ := h
  refine S_laws_eqCorrectionS rfl (Nat.le_of_ble_eq_true rfl) ?_
  have key : ∀ k : Nat, L_laws_eqCorrectionS_0 PP [(0, .v (.sl 5 (xs.map rCor))), (1, .v (.sl 5 (xs.map rCor))), (5, .v (.int .i64 k))] [.v (.bool true)] := up xs.length (fun k ih => ?_)
  · repeat' (first|refine run_neI rfl ?_|refine goM rfl ?_|refine goR rfl ?_|refine goX rfl ?_|refine goY rfl ?_)
    refine run_loopF rfl ?_
    exact key 0
  · repeat' (first|refine goM rfl ?_|refine goR rfl ?_|refine goX rfl ?_|refine goY rfl ?_)
    refine run_cnd_lt (n := (xs.map rCor).length) rfl (fun hk => ?_) (fun hk => ?_)
    · rw [List.length_map] at hk
      repeat' (first|refine mid_idxm rfl rfl hk rfl ?_|refine goM rfl ?_|refine goR rfl ?_|refine goX rfl ?_|refine goY rfl ?_|refine goC (eqCorrection_ok xs[k] (hall _ (List.getElem_mem hk))) rfl rfl rfl rfl ?_)
      refine run_backF rfl ?_
      rw [wsucc (by omega)]
      exact ih hk
    · repeat' (first|refine goM rfl ?_|refine goR rfl ?_|refine goX rfl ?_|refine goY rfl ?_)
      (first|refine run_ret rfl ?_|refine run_done rfl ?_)
      rfl
/- Entry -/
def smEntry (x : Ent) : Prop := True
def bgEntry (x : Ent) : Prop := x.fill.length ≤ 140737488355328
def sz_Entry (x : Ent) : Int → Int := seqz [wdec x.fill.length]
theorem szEntry_ok (x : Ent) (l : Int) (h : bgEntry x) : CallsOK PP F_laws_szEntry [.agg (rEnt x), .v (.int .i64 l)] [.v (.int .i64 (sz_Entry x l))] := by
  refine S_laws_szEntry rfl (Nat.le_of_ble_eq_true rfl) ?_
  repeat' (first|refine goM rfl ?_|refine goR rfl ?_|refine goX rfl ?_|refine goY rfl ?_)
  refine run_sz rfl (fun h0 => ?_) (fun h0 => ?_)
  · repeat' (first|refine goM rfl ?_|refine goR rfl ?_|refine goX rfl ?_|refine goY rfl ?_)
    (first|refine run_ret rfl ?_|refine run_done rfl ?_)
    replace h0 : (wdec x.fill.length) l < 0 := h0
    simp only [sz_Entry, seqz, h0, if_true, if_false]
  · repeat' (first|refine goM rfl ?_|refine goR rfl ?_|refine goX rfl ?_|refine goY rfl ?_)
    (first|refine run_ret rfl ?_|refine run_done rfl ?_)
    replace h0 : ¬ (wdec x.fill.length) l < 0 := h0
    simp only [sz_Entry, seqz, h0, if_false]
    try rfl
theorem toEntry_ok (x : Ent) (h : smEntry x) : CallsOK PP F_laws_toEntry [.agg (rEnt x)] [.agg (rEnt x)] := by
  refine S_laws_toEntry rfl (Nat.le_of_ble_eq_true rfl) ?_
  repeat' (first|refine goM rfl ?_|refine goR rfl ?_|refine goX rfl ?_|refine goY rfl ?_)
  (first|refine run_ret rfl ?_|refine run_done rfl ?_)
  rfl
theorem eqEntry_ok (x : Ent) (h : smEntry x) : CallsOK PP F_laws_eqEntry [.agg (rEnt x), .agg (rEnt x)] [.v (.bool true)] := by
  refine S_laws_eqEntry rfl (Nat.le_of_ble_eq_true rfl) ?_
  repeat' (first|refine run_neI rfl ?_|refine run_neS rfl ?_|refine goM rfl ?_|refine goR rfl ?_|refine goX rfl ?_|refine goY rfl ?_)
  (first|refine run_ret rfl ?_|refine run_done rfl ?_)
  rfl
/- EntryS -/
def smEntryS (xs : List Ent) : Prop := xs.length ≤ 1048576 ∧ ∀ x ∈ xs, smEntry x
def bgEntryS (xs : List Ent) : Prop := xs.length ≤ 140737488355328 ∧ ∀ x ∈ xs, bgEntry x
theorem szEntryS_ok (xs : List Ent) (l : Int) (h : bgEntryS xs) : CallsOK PP F_laws_szEntryS [.v (.sl 4 (xs.map rEnt)), .v (.int .i64 l)] [.v (.int .i64 (szList sz_Entry xs l))] := by
  obtain ⟨hlen, hall⟩ := h
  refine S_laws_szEntryS rfl (Nat.le_of_ble_eq_true rfl) ?_
  repeat' (first|refine goM rfl ?_|refine goR rfl ?_|refine goX rfl ?_|refine goY rfl ?_)
  refine run_sz rfl (fun h0 => ?_) (fun h0 => ?_)
  · repeat' (first|refine goM rfl ?_|refine goR rfl ?_|refine goX rfl ?_|refine goY rfl ?_)
    (first|refine run_ret rfl ?_|refine run_done rfl ?_)
    rw [List.length_map] at h0
    replace h0 : wdec xs.length l < 0 := h0
    simp only [szList, h0, if_true]
  · have key : ∀ k : Nat, ∀ l : Int, L_laws_szEntryS_0 PP [(0, .v (.sl 4 (xs.map rEnt))), (1, .v (.int .i64 l)), (5, .v (.int .i64 k))] [.v (.int .i64 (szLoop sz_Entry (xs.drop k) l))] := up xs.length (fun k ih l => ?_)
    · repeat' (first|refine goM rfl ?_|refine goR rfl ?_|refine goX rfl ?_|refine goY rfl ?_)
      refine run_loopF rfl ?_
      rw [List.length_map] at h0
      replace h0 : ¬ wdec xs.length l < 0 := h0
      rw [List.length_map]
      simp only [szList, h0, if_false]
      exact key 0 _
    · repeat' (first|refine goM rfl ?_|refine goR rfl ?_|refine goX rfl ?_|refine goY rfl ?_)
      refine run_cnd_lt (n := (xs.map rEnt).length) rfl (fun hk => ?_) (fun hk => ?_)
      · rw [List.length_map] at hk
        repeat' (first|refine mid_idxm rfl rfl hk rfl ?_|refine goM rfl ?_|refine goR rfl ?_|refine goX rfl ?_|refine goY rfl ?_|refine goC (szEntry_ok xs[k] _ (hall _ (List.getElem_mem hk))) rfl rfl rfl rfl ?_)
        rw [List.drop_eq_getElem_cons hk]
        refine run_sz rfl (fun h1 => ?_) (fun h1 => ?_)
        · repeat' (first|refine goM rfl ?_|refine goR rfl ?_|refine goX rfl ?_|refine goY rfl ?_)
          (first|refine run_ret rfl ?_|refine run_done rfl ?_)
          simp [szLoop, h1]
        · repeat' (first|refine goM rfl ?_|refine goR rfl ?_|refine goX rfl ?_|refine goY rfl ?_)
          refine run_backF rfl ?_
          rw [wsucc (by omega)]
          simp only [szLoop, h1, if_false]
          exact ih hk _
      · rw [List.length_map] at hk
        repeat' (first|refine goM rfl ?_|refine goR rfl ?_|refine goX rfl ?_|refine goY rfl ?_)
        (first|refine run_ret rfl ?_|refine run_done rfl ?_)
        rw [List.drop_eq_nil_of_le (by omega)]; rfl
theorem toEntryS_ok (xs : List Ent) (h : smEntryS xs) : CallsOK PP F_laws_toEntryS [.v (.sl 4 (xs.map rEnt))] [.own T_impl_Entry 4 40 (xs.map rEnt)] := by
  obtain ⟨hlen, hall⟩ := h
  refine S_laws_toEntryS rfl (Nat.le_of_ble_eq_true rfl) ?_
  have key : ∀ k : Nat, k ≤ xs.length → L_laws_toEntryS_0 PP [(0, .v (.sl 4 (xs.map rEnt))), (3, .own T_impl_Entry 4 40 (fillRows rEnt [.int .i64 0, .int .i64 0, .int .i64 0, .str []] xs k)), (4, .v (.int .i64 k))] [.own T_impl_Entry 4 40 (xs.map rEnt)] := up xs.length (fun k ih hle => ?_)
  · repeat' (first|refine mid_mks rfl (by rw [List.length_map]; omega) (by rw [List.length_map]; omega) rfl ?_|refine goM rfl ?_|refine goR rfl ?_|refine goX rfl ?_|refine goY rfl ?_)
    refine run_loopF rfl ?_
    rw [List.length_map, ← fillRows_zero rEnt _ xs]
    exact key 0 (Nat.zero_le _)
  · repeat' (first|refine goM rfl ?_|refine goR rfl ?_|refine goX rfl ?_|refine goY rfl ?_)
    refine run_cnd_lt (n := (xs.map rEnt).length) rfl (fun hk => ?_) (fun hk => ?_)
    · rw [List.length_map] at hk
      repeat' (first|refine mid_idxm rfl rfl hk rfl ?_|refine mid_idxo rfl rfl rfl (by omega) (by rw [fillRows_len _ _ _ hle]; omega) rfl ?_|refine mid_sto_row rfl rfl rfl rfl rfl (fillRows_len1 _ _ _ hk) ?_|refine goM rfl ?_|refine goR rfl ?_|refine goX rfl ?_|refine goY rfl ?_|refine goC (toEntry_ok xs[k] (hall _ (List.getElem_mem hk))) rfl rfl rfl rfl ?_)
      refine run_backF rfl ?_
      rw [wsucc (by omega), Int.toNat_natCast]
      have hs := fillRows_set rEnt [.int .i64 0, .int .i64 0, .int .i64 0, .str []] xs hk
      simp only [rEnt] at hs ⊢
      rw [hs]
      exact ih hk (by omega)
    · rw [List.length_map] at hk
      repeat' (first|refine goM rfl ?_|refine goR rfl ?_|refine goX rfl ?_|refine goY rfl ?_)
      (first|refine run_ret rfl ?_|refine run_done rfl ?_)
      rw [fillRows_all _ _ _ (by omega)]
theorem eqEntryS_ok (xs : List Ent) (h : smEntryS xs) : CallsOK PP F_laws_eqEntryS [.v (.sl 4 (xs.map rEnt)), .v (.sl 4 (xs.map rEnt))] [.v (.bool true)] := by
  obtain ⟨hlen, hall⟩ := h
  refine S_laws_eqEntryS rfl (Nat.le_of_ble_eq_true rfl) ?_
  have key : ∀ k : Nat, L_laws_eqEntryS_0 PP [(0, .v (.sl 4 (xs.map rEnt))), (1, .v (.sl 4 (xs.map rEnt))), (5, .v (.int .i64 k))] [.v (.bool true)] := up xs.length (fun k ih => ?_)
  · repeat' (first|refine run_neI rfl ?_|refine goM rfl ?_|refine goR rfl ?_|refine goX rfl ?_|refine goY rfl ?_)
    refine run_loopF rfl ?_
    exact key 0
  · repeat' (first|refine goM rfl ?_|refine goR rfl ?_|refine goX rfl ?_|refine goY rfl ?_)
    refine run_cnd_lt (n := (xs.map rEnt).length) rfl (fun hk => ?_) (fun hk => ?_)
    · rw [List.length_map] at hk
      repeat' (first|refine mid_idxm rfl rfl hk rfl ?_|refine goM rfl ?_|refine goR rfl ?_|refine goX rfl ?_|refine goY rfl ?_|refine goC (eqEntry_ok xs[k] (hall _ (List.getElem_mem hk))) rfl rfl rfl rfl ?_)
      refine run_backF rfl ?_
      rw [wsucc (by omega)]
      exact ih hk
    · repeat' (first|refine goM rfl ?_|refine goR rfl ?_|refine goX rfl ?_|refine goY rfl ?_)
      (first|refine run_ret rfl ?_|refine run_done rfl ?_)
      rfl
/- House -/
def smHouse (x : Hou) : Prop := smListedS x.list ∧ smMeaningS x.dict ∧ smDraft x.desk ∧ smIssueS x.issues ∧ smUsedS x.uses ∧ smCorrectionS x.cors ∧ smEntryS x.ents
def bgHouse (x : Hou) : Prop := bgListedS x.list ∧ bgMeaningS x.dict ∧ bgDraft x.desk ∧ bgIssueS x.issues ∧ bgUsedS x.uses ∧ bgCorrectionS x.cors ∧ bgEntryS x.ents
def sz_House (x : Hou) : Int → Int := seqz [szList sz_Listed x.list, szList sz_Meaning x.dict, sz_Draft x.desk, szList sz_Issue x.issues, szList sz_Used x.uses, szList sz_Correction x.cors, szList sz_Entry x.ents]
theorem szHouse_ok (x : Hou) (l : Int) (h : bgHouse x) : CallsOK PP F_laws_szHouse [.agg (rHou x), .v (.int .i64 l)] [.v (.int .i64 (sz_House x l))] := by
  refine S_laws_szHouse rfl (Nat.le_of_ble_eq_true rfl) ?_
  repeat' (first|refine goM rfl ?_|refine goR rfl ?_|refine goX rfl ?_|refine goY rfl ?_|refine goC (szListedS_ok x.list _ (by simp only [bgHouse] at h; simp_all)) rfl rfl rfl rfl ?_)
  refine run_sz rfl (fun h0 => ?_) (fun h0 => ?_)
  · repeat' (first|refine goM rfl ?_|refine goR rfl ?_|refine goX rfl ?_|refine goY rfl ?_)
    (first|refine run_ret rfl ?_|refine run_done rfl ?_)
    replace h0 : (szList sz_Listed x.list) l < 0 := h0
    simp only [sz_House, seqz, h0, if_true, if_false]
  repeat' (first|refine goM rfl ?_|refine goR rfl ?_|refine goX rfl ?_|refine goY rfl ?_|refine goC (szMeaningS_ok x.dict _ (by simp only [bgHouse] at h; simp_all)) rfl rfl rfl rfl ?_)
  refine run_sz rfl (fun h1 => ?_) (fun h1 => ?_)
  · repeat' (first|refine goM rfl ?_|refine goR rfl ?_|refine goX rfl ?_|refine goY rfl ?_)
    (first|refine run_ret rfl ?_|refine run_done rfl ?_)
    replace h0 : ¬ (szList sz_Listed x.list) l < 0 := h0
    replace h1 : (szList sz_Meaning x.dict) ((szList sz_Listed x.list) l) < 0 := h1
    simp only [sz_House, seqz, h0, h1, if_true, if_false]
  repeat' (first|refine goM rfl ?_|refine goR rfl ?_|refine goX rfl ?_|refine goY rfl ?_|refine goC (szDraft_ok x.desk _ (by simp only [bgHouse] at h; simp_all)) rfl rfl rfl rfl ?_)
  refine run_sz rfl (fun h2 => ?_) (fun h2 => ?_)
  · repeat' (first|refine goM rfl ?_|refine goR rfl ?_|refine goX rfl ?_|refine goY rfl ?_)
    (first|refine run_ret rfl ?_|refine run_done rfl ?_)
    replace h0 : ¬ (szList sz_Listed x.list) l < 0 := h0
    replace h1 : ¬ (szList sz_Meaning x.dict) ((szList sz_Listed x.list) l) < 0 := h1
    replace h2 : (sz_Draft x.desk) ((szList sz_Meaning x.dict) ((szList sz_Listed x.list) l)) < 0 := h2
    simp only [sz_House, seqz, h0, h1, h2, if_true, if_false]
  repeat' (first|refine goM rfl ?_|refine goR rfl ?_|refine goX rfl ?_|refine goY rfl ?_|refine goC (szIssueS_ok x.issues _ (by simp only [bgHouse] at h; simp_all)) rfl rfl rfl rfl ?_)
  refine run_sz rfl (fun h3 => ?_) (fun h3 => ?_)
  · repeat' (first|refine goM rfl ?_|refine goR rfl ?_|refine goX rfl ?_|refine goY rfl ?_)
    (first|refine run_ret rfl ?_|refine run_done rfl ?_)
    replace h0 : ¬ (szList sz_Listed x.list) l < 0 := h0
    replace h1 : ¬ (szList sz_Meaning x.dict) ((szList sz_Listed x.list) l) < 0 := h1
    replace h2 : ¬ (sz_Draft x.desk) ((szList sz_Meaning x.dict) ((szList sz_Listed x.list) l)) < 0 := h2
    replace h3 : (szList sz_Issue x.issues) ((sz_Draft x.desk) ((szList sz_Meaning x.dict) ((szList sz_Listed x.list) l))) < 0 := h3
    simp only [sz_House, seqz, h0, h1, h2, h3, if_true, if_false]
  repeat' (first|refine goM rfl ?_|refine goR rfl ?_|refine goX rfl ?_|refine goY rfl ?_|refine goC (szUsedS_ok x.uses _ (by simp only [bgHouse] at h; simp_all)) rfl rfl rfl rfl ?_)
  refine run_sz rfl (fun h4 => ?_) (fun h4 => ?_)
  · repeat' (first|refine goM rfl ?_|refine goR rfl ?_|refine goX rfl ?_|refine goY rfl ?_)
    (first|refine run_ret rfl ?_|refine run_done rfl ?_)
    replace h0 : ¬ (szList sz_Listed x.list) l < 0 := h0
    replace h1 : ¬ (szList sz_Meaning x.dict) ((szList sz_Listed x.list) l) < 0 := h1
    replace h2 : ¬ (sz_Draft x.desk) ((szList sz_Meaning x.dict) ((szList sz_Listed x.list) l)) < 0 := h2
    replace h3 : ¬ (szList sz_Issue x.issues) ((sz_Draft x.desk) ((szList sz_Meaning x.dict) ((szList sz_Listed x.list) l))) < 0 := h3
    replace h4 : (szList sz_Used x.uses) ((szList sz_Issue x.issues) ((sz_Draft x.desk) ((szList sz_Meaning x.dict) ((szList sz_Listed x.list) l)))) < 0 := h4
    simp only [sz_House, seqz, h0, h1, h2, h3, h4, if_true, if_false]
  repeat' (first|refine goM rfl ?_|refine goR rfl ?_|refine goX rfl ?_|refine goY rfl ?_|refine goC (szCorrectionS_ok x.cors _ (by simp only [bgHouse] at h; simp_all)) rfl rfl rfl rfl ?_)
  refine run_sz rfl (fun h5 => ?_) (fun h5 => ?_)
  · repeat' (first|refine goM rfl ?_|refine goR rfl ?_|refine goX rfl ?_|refine goY rfl ?_)
    (first|refine run_ret rfl ?_|refine run_done rfl ?_)
    replace h0 : ¬ (szList sz_Listed x.list) l < 0 := h0
    replace h1 : ¬ (szList sz_Meaning x.dict) ((szList sz_Listed x.list) l) < 0 := h1
    replace h2 : ¬ (sz_Draft x.desk) ((szList sz_Meaning x.dict) ((szList sz_Listed x.list) l)) < 0 := h2
    replace h3 : ¬ (szList sz_Issue x.issues) ((sz_Draft x.desk) ((szList sz_Meaning x.dict) ((szList sz_Listed x.list) l))) < 0 := h3
    replace h4 : ¬ (szList sz_Used x.uses) ((szList sz_Issue x.issues) ((sz_Draft x.desk) ((szList sz_Meaning x.dict) ((szList sz_Listed x.list) l)))) < 0 := h4
    replace h5 : (szList sz_Correction x.cors) ((szList sz_Used x.uses) ((szList sz_Issue x.issues) ((sz_Draft x.desk) ((szList sz_Meaning x.dict) ((szList sz_Listed x.list) l))))) < 0 := h5
    simp only [sz_House, seqz, h0, h1, h2, h3, h4, h5, if_true, if_false]
  repeat' (first|refine goM rfl ?_|refine goR rfl ?_|refine goX rfl ?_|refine goY rfl ?_|refine goC (szEntryS_ok x.ents _ (by simp only [bgHouse] at h; simp_all)) rfl rfl rfl rfl ?_)
  refine run_sz rfl (fun h6 => ?_) (fun h6 => ?_)
  · repeat' (first|refine goM rfl ?_|refine goR rfl ?_|refine goX rfl ?_|refine goY rfl ?_)
    (first|refine run_ret rfl ?_|refine run_done rfl ?_)
    replace h0 : ¬ (szList sz_Listed x.list) l < 0 := h0
    replace h1 : ¬ (szList sz_Meaning x.dict) ((szList sz_Listed x.list) l) < 0 := h1
    replace h2 : ¬ (sz_Draft x.desk) ((szList sz_Meaning x.dict) ((szList sz_Listed x.list) l)) < 0 := h2
    replace h3 : ¬ (szList sz_Issue x.issues) ((sz_Draft x.desk) ((szList sz_Meaning x.dict) ((szList sz_Listed x.list) l))) < 0 := h3
    replace h4 : ¬ (szList sz_Used x.uses) ((szList sz_Issue x.issues) ((sz_Draft x.desk) ((szList sz_Meaning x.dict) ((szList sz_Listed x.list) l)))) < 0 := h4
    replace h5 : ¬ (szList sz_Correction x.cors) ((szList sz_Used x.uses) ((szList sz_Issue x.issues) ((sz_Draft x.desk) ((szList sz_Meaning x.dict) ((szList sz_Listed x.list) l))))) < 0 := h5
    replace h6 : (szList sz_Entry x.ents) ((szList sz_Correction x.cors) ((szList sz_Used x.uses) ((szList sz_Issue x.issues) ((sz_Draft x.desk) ((szList sz_Meaning x.dict) ((szList sz_Listed x.list) l)))))) < 0 := h6
    simp only [sz_House, seqz, h0, h1, h2, h3, h4, h5, h6, if_true, if_false]
  · repeat' (first|refine goM rfl ?_|refine goR rfl ?_|refine goX rfl ?_|refine goY rfl ?_)
    (first|refine run_ret rfl ?_|refine run_done rfl ?_)
    replace h0 : ¬ (szList sz_Listed x.list) l < 0 := h0
    replace h1 : ¬ (szList sz_Meaning x.dict) ((szList sz_Listed x.list) l) < 0 := h1
    replace h2 : ¬ (sz_Draft x.desk) ((szList sz_Meaning x.dict) ((szList sz_Listed x.list) l)) < 0 := h2
    replace h3 : ¬ (szList sz_Issue x.issues) ((sz_Draft x.desk) ((szList sz_Meaning x.dict) ((szList sz_Listed x.list) l))) < 0 := h3
    replace h4 : ¬ (szList sz_Used x.uses) ((szList sz_Issue x.issues) ((sz_Draft x.desk) ((szList sz_Meaning x.dict) ((szList sz_Listed x.list) l)))) < 0 := h4
    replace h5 : ¬ (szList sz_Correction x.cors) ((szList sz_Used x.uses) ((szList sz_Issue x.issues) ((sz_Draft x.desk) ((szList sz_Meaning x.dict) ((szList sz_Listed x.list) l))))) < 0 := h5
    replace h6 : ¬ (szList sz_Entry x.ents) ((szList sz_Correction x.cors) ((szList sz_Used x.uses) ((szList sz_Issue x.issues) ((sz_Draft x.desk) ((szList sz_Meaning x.dict) ((szList sz_Listed x.list) l)))))) < 0 := h6
    simp only [sz_House, seqz, h0, h1, h2, h3, h4, h5, h6, if_false]
    try rfl
theorem eqHouse_ok (x : Hou) (h : smHouse x) : CallsOK PP F_laws_eqHouse [.agg (rHou x), .agg (rHou x)] [.v (.bool true)] := by
  refine S_laws_eqHouse rfl (Nat.le_of_ble_eq_true rfl) ?_
  repeat' (first|refine run_neI rfl ?_|refine goM rfl ?_|refine goR rfl ?_|refine goX rfl ?_|refine goY rfl ?_|refine goC (eqListedS_ok x.list (by simp only [smHouse] at h; simp_all)) rfl rfl rfl rfl ?_|refine goC (eqMeaningS_ok x.dict (by simp only [smHouse] at h; simp_all)) rfl rfl rfl rfl ?_|refine goC (eqDraft_ok x.desk (by simp only [smHouse] at h; simp_all)) rfl rfl rfl rfl ?_|refine goC (eqIssueS_ok x.issues (by simp only [smHouse] at h; simp_all)) rfl rfl rfl rfl ?_|refine goC (eqUsedS_ok x.uses (by simp only [smHouse] at h; simp_all)) rfl rfl rfl rfl ?_|refine goC (eqCorrectionS_ok x.cors (by simp only [smHouse] at h; simp_all)) rfl rfl rfl rfl ?_|refine goC (eqEntryS_ok x.ents (by simp only [smHouse] at h; simp_all)) rfl rfl rfl rfl ?_)
  (first|refine run_ret rfl ?_|refine run_done rfl ?_)
  rfl
end Go.Rd

namespace Go.Rd
open Go.Proofs
set_option linter.unusedSimpArgs false
set_option linter.unusedVariables false
set_option maxRecDepth 10000
set_option maxHeartbeats 1000000
abbrev hStp (l : List Stp) : HT := ⟨T_impl_Step, 4, 40, l.map rStp⟩
def oClu (x : Clu) : List DV := [dI x.sense, .own T_impl_Step 4 40 (x.play.map rStp)]
abbrev hClu (l : List Clu) : HT := ⟨T_impl_Clue, 2, 32, l.map oClu⟩
abbrev hInt (l : List Int) : HT := ⟨T_int, 1, 8, l.map rI⟩
def oIss (x : Iss) : List DV := [dI x.number, dI x.puz.grid.rows, dI x.puz.grid.cols, dS x.puz.grid.cells, .own T_impl_Clue 2 32 (x.puz.clues.map oClu), .own T_int 1 8 (x.puz.seals.map rI), dI x.puz.salt, dS x.fill, dI x.op, dI x.cl]
abbrev hIss (l : List Iss) : HT := ⟨T_impl_Issue, 10, 128, l.map oIss⟩
def oCor (x : Cor) : List DV := [dI x.issue, dI x.slot, dI x.clue.sense, .own T_impl_Step 4 40 (x.clue.play.map rStp), dI x.tick]
abbrev hCor (l : List Cor) : HT := ⟨T_impl_Correction, 5, 56, l.map oCor⟩
abbrev hLis (l : List Lis) : HT := ⟨T_impl_Listed, 4, 40, l.map rLis⟩
abbrev hMea (l : List Mea) : HT := ⟨T_impl_Meaning, 2, 24, l.map rMea⟩
abbrev hUse (l : List Use) : HT := ⟨T_impl_Used, 2, 24, l.map rUse⟩
abbrev hEnt (l : List Ent) : HT := ⟨T_impl_Entry, 4, 40, l.map rEnt⟩
abbrev hHou (h : Hou) : List HT := [hLis h.list, hMea h.dict, hClu h.desk.clues, hIss h.issues, hUse h.uses, hCor h.cors, hEnt h.ents]
abbrev vHou (h : Hou) (v0 v1 v2 v3 v4 v5 v6 : Value) : List DV := [.val v0, .val v1, dI h.desk.grid.rows, dI h.desk.grid.cols, dS h.desk.grid.cells, dS h.desk.fill, .val v2, dI h.desk.ver, .val v3, .val v4, .val v5, .val v6, dI h.now]
abbrev vDra (x : Dra) (v : Value) : List DV := [dI x.grid.rows, dI x.grid.cols, dS x.grid.cells, dS x.fill, .val v, dI x.ver]
abbrev vPuz (p : Puz) (v0 v1 : Value) : List DV := [dI p.grid.rows, dI p.grid.cols, dS p.grid.cells, .val v0, .val v1, dI p.salt]
abbrev vIss (x : Iss) (v0 v1 : Value) : List DV := [dI x.number, dI x.puz.grid.rows, dI x.puz.grid.cols, dS x.puz.grid.cells, .val v0, .val v1, dI x.puz.salt, dS x.fill, dI x.op, dI x.cl]
abbrev vCor (x : Cor) (v : Value) : List DV := [dI x.issue, dI x.slot, dI x.clue.sense, .val v, dI x.tick]
abbrev vClu (x : Clu) (v : Value) : List DV := [dI x.sense, .val v]
theorem frz_map {α : Type} {f g : α → List DV} (h : ∀ x, frzRow (f x) = g x) : ∀ l : List α, frzRows (l.map f) = l.map g
  | [] => rfl
  | x :: l => by simp only [List.map_cons, frzRows, h x, frz_map h l]
theorem free_map {α : Type} {f : α → List DV} (h : ∀ x, freeRow (f x) = true) : ∀ l : List α, freeRows (l.map f) = true
  | [] => rfl
  | x :: l => by simp only [List.map_cons, freeRows, h x, free_map h l, Bool.and_true]
theorem fz_lis (l : List Lis) : frzRows (l.map rLis) = l.map rLis := frz_map (fun _ => rfl) l
theorem fz_mea (l : List Mea) : frzRows (l.map rMea) = l.map rMea := frz_map (fun _ => rfl) l
theorem fz_use (l : List Use) : frzRows (l.map rUse) = l.map rUse := frz_map (fun _ => rfl) l
theorem fz_ent (l : List Ent) : frzRows (l.map rEnt) = l.map rEnt := frz_map (fun _ => rfl) l
theorem fz_stp (l : List Stp) : frzRows (l.map rStp) = l.map rStp := frz_map (fun _ => rfl) l
theorem fz_int (l : List Int) : frzRows (l.map rI) = l.map rI := frz_map (fun _ => rfl) l
theorem fz_clu (l : List Clu) : frzRows (l.map oClu) = l.map rClu := frz_map (fun x => by simp only [oClu, rClu, frzRow, DV.frz, fz_stp]) l
theorem fz_iss (l : List Iss) : frzRows (l.map oIss) = l.map rIss := frz_map (fun x => by simp only [oIss, rIss, frzRow, DV.frz, fz_clu, fz_int]) l
theorem fz_cor (l : List Cor) : frzRows (l.map oCor) = l.map rCor := frz_map (fun x => by simp only [oCor, rCor, frzRow, DV.frz, fz_stp]) l
theorem fr_lis (l : List Lis) : freeRows (l.map rLis) = true := free_map (fun _ => rfl) l
theorem fr_mea (l : List Mea) : freeRows (l.map rMea) = true := free_map (fun _ => rfl) l
theorem fr_use (l : List Use) : freeRows (l.map rUse) = true := free_map (fun _ => rfl) l
theorem fr_ent (l : List Ent) : freeRows (l.map rEnt) = true := free_map (fun _ => rfl) l
theorem fr_stp (l : List Stp) : freeRows (l.map rStp) = true := free_map (fun _ => rfl) l
theorem fr_int (l : List Int) : freeRows (l.map rI) = true := free_map (fun _ => rfl) l
theorem fr_clu (l : List Clu) : freeRows (l.map oClu) = true := free_map (fun x => by simp only [oClu, freeRow, DV.freeT, fr_stp]; rfl) l
theorem fr_iss (l : List Iss) : freeRows (l.map oIss) = true := free_map (fun x => by simp only [oIss, freeRow, DV.freeT, fr_clu, fr_int]; rfl) l
theorem fr_cor (l : List Cor) : freeRows (l.map oCor) = true := free_map (fun x => by simp only [oCor, freeRow, DV.freeT, fr_stp]; rfl) l
theorem fillRows_self {α : Type} (f : α → List DV) (z : List DV) (l : List α) {k : Nat} (h : k < l.length) : (fillRows f z l k).set k z = fillRows f z l k := by
  have h1 : k < (fillRows f z l k).length := by rw [fillRows_len f z l (by omega)]; exact h
  have h2 := fillRows_get f z l h
  rw [List.getD_eq_getElem?_getD, List.getElem?_eq_getElem h1] at h2
  refine List.ext_getElem? (fun j => ?_)
  rw [List.getElem?_set]
  by_cases e : k = j
  · subst e; rw [if_pos rfl, if_pos h1, List.getElem?_eq_getElem h1]; exact congrArg some h2.symm
  · rw [if_neg e]
theorem toClue_dp (x : Clu) (h : smClue x) : CallsH PP F_laws_toClue [] [hStp x.play] (fun _ => [.agg (rClu x)]) (fun u => [.agg (vClu x (u 0))]) := by
  refine SQ_laws_toClue [] [1000] (fun _ => rfl) (fun _ => ⟨Nat.le_of_ble_eq_true rfl, by simp⟩) (by simp) (by simp) (fun u Q hQ => ?_)
  simp only [rClu]
  repeat' (first|refine goM rfl ?_|refine goR rfl ?_|refine goX rfl ?_|refine goY rfl ?_)
  refine mid_callN 1000 (toStepS_ok x.play h) rfl (vwA_same _) rfl (fr_stp _) rfl rfl (by decide) (fun v bs => ?_)
  repeat' (first|refine goM rfl ?_|refine goR rfl ?_|refine goX rfl ?_|refine goY rfl ?_)
  exact .ret (hQ _ ⟨(fun _ => v, fun _ => bs), rfl, by simp, rfl, trivial⟩)
theorem toClueS_dp (xs : List Clu) (h : smClueS xs) : CallsH PP F_laws_toClueS [] [hClu xs] (fun _ => [.v (dClus xs)]) (fun u => [.v (.val (u 0))]) := by
  obtain ⟨hlen, hall⟩ := h
  refine SQ_laws_toClueS [] [1000] (fun _ => rfl) (fun _ => ⟨Nat.le_of_ble_eq_true rfl, by simp⟩) (by simp) (by simp) (fun u Q hQ => ?_)
  have hend : ∀ (E : Env) (v : Value) (bs : List Nat), resP E [.tmp 2] = some [.v (.val v)] → get E 1000 = .heap true v bs T_impl_Clue 2 32 (xs.map oClu) → Q E := fun E v bs h1 h2 => hQ E ⟨(fun _ => v, fun _ => bs), h1, by simp, h2, trivial⟩
  clear hQ
  have key : ∀ k : Nat, ∀ (v : Value) (bs : List Nat), k ≤ xs.length → L_laws_toClueS_0 PP Q [(0, .v (dClus xs)), (3, .v (.val v)), (4, .v (.int .i64 k)), (1000, .heap true v bs T_impl_Clue 2 32 (fillRows oClu [.int .i64 0, .sl 4 []] xs k)),
      (1001, .undef), (1002, .undef), (1003, .undef), (1004, .undef), (1005, .undef), (1006, .undef), (1007, .undef), (1008, .undef), (1009, .undef)] := up xs.length (fun k ih v bs hk0 => ?_)
  · repeat' (first|refine mid_mks rfl (by rw [List.length_map]; omega) (by rw [List.length_map]; omega) rfl ?_|refine goM rfl ?_|refine goR rfl ?_|refine goX rfl ?_|refine goY rfl ?_)
    refine run_name (d := 3) 1000 rfl rfl (fun v bs => ?_)
    refine run_loopF rfl ?_
    rw [List.length_map, ← fillRows_zero oClu _ xs]
    exact key 0 v bs (Nat.zero_le _)
  · repeat' (first|refine goM rfl ?_|refine goR rfl ?_|refine goX rfl ?_|refine goY rfl ?_)
    refine run_cnd_lt (n := (xs.map rClu).length) rfl (fun hk => ?_) (fun hk => ?_)
    · rw [List.length_map] at hk
      have hl : k < (fillRows oClu [.int .i64 0, .sl 4 []] xs k).length := by rw [fillRows_len _ _ _ hk0]; exact hk
      rw [← fillRows_self oClu _ xs hk]
      repeat' (first|refine mid_idxm rfl rfl hk rfl ?_|refine goM rfl ?_|refine goR rfl ?_|refine goX rfl ?_)
      refine mid_callV1t (res := fun v => [.agg (vClu xs[k] v)]) 1001 (toClue_dp xs[k] (hall _ (List.getElem_mem hk))) rfl rfl (vwA_same _) (fun _ => rfl) (fun _ => rfl) (fun _ => rfl) (fr_stp _) (by simp) rfl rfl (by decide) (fun w cs => ?_)
      repeat' (first|refine mid_idxS (m := 1000) hl rfl rfl rfl rfl ?_|refine mid_stoaS (m := 1000) hl rfl rfl rfl rfl rfl rfl ?_|refine goM rfl ?_|refine goR rfl ?_|refine goX rfl ?_|refine goY rfl ?_)
      refine run_closeS (m := 1000) (o := 1) (r' := oClu xs[k]) 1001 hl rfl rfl rfl (by decide) (fun h => h) rfl (fun bs' => ?_)
      rw [fillRows_set oClu _ xs hk]
      skip
      refine run_backF rfl ?_
      rw [wsucc (by omega)]
      exact ih hk v bs' (by omega)
    · rw [List.length_map] at hk
      repeat' (first|refine goM rfl ?_|refine goR rfl ?_|refine goX rfl ?_|refine goY rfl ?_)
      refine .ret (hend _ v bs rfl ?_)
      rw [← fillRows_all oClu [.int .i64 0, .sl 4 []] xs (k := k) (by omega)]; rfl
theorem toPuzzle_dp (x : Puz) (h : smPuzzle x) : CallsH PP F_laws_toPuzzle [] [hClu x.clues, hInt x.seals] (fun _ => [.agg (rPuz x)]) (fun u => [.agg (vPuz x (u 0) (u 1))]) := by
  obtain ⟨h1, h2, h3⟩ := h
  refine SQ_laws_toPuzzle [] [1000, 1001] (fun _ => rfl) (fun _ => ⟨Nat.le_of_ble_eq_true rfl, by simp⟩) (by simp) (by simp) (fun u Q hQ => ?_)
  simp only [rPuz]
  have hgr := toGrid_ok x.grid h1
  simp only [rGrd] at hgr
  repeat' (first|refine goM rfl ?_|refine goR rfl ?_|refine goX rfl ?_|refine goY rfl ?_|refine goC (hgr) rfl rfl rfl rfl ?_)
  refine mid_callV1t (res := fun v => [.v (.val v)]) 1000 (toClueS_dp x.clues h2) rfl rfl (vwA_same _) (fun _ => rfl) (fun _ => rfl) (fun _ => rfl) (fr_clu _) (by simp) rfl rfl (by decide) (fun v bs => ?_)
  repeat' (first|refine goM rfl ?_|refine goR rfl ?_|refine goX rfl ?_|refine goY rfl ?_)
  refine mid_callN 1001 (toIntS_ok x.seals h3) rfl (vwA_same _) rfl (fr_int _) rfl rfl (by decide) (fun v2 bs2 => ?_)
  repeat' (first|refine goM rfl ?_|refine goR rfl ?_|refine goX rfl ?_|refine goY rfl ?_)
  exact .ret (hQ _ ⟨(sel2 v v2, sel2 bs bs2), rfl, by simp, rfl, rfl, trivial⟩)
theorem toIssue_dp (x : Iss) (h : smIssue x) : CallsH PP F_laws_toIssue [] [hClu x.puz.clues, hInt x.puz.seals] (fun _ => [.agg (rIss x)]) (fun u => [.agg (vIss x (u 0) (u 1))]) := by
  refine SQ_laws_toIssue [] [1000, 1001] (fun _ => rfl) (fun _ => ⟨Nat.le_of_ble_eq_true rfl, by simp⟩) (by simp) (by simp) (fun u Q hQ => ?_)
  have hp := toPuzzle_dp x.puz h
  simp only [rIss]
  simp only [rPuz] at hp
  repeat' (first|refine goM rfl ?_|refine goR rfl ?_|refine goX rfl ?_|refine goY rfl ?_)
  refine mid_callV2t (res := fun v w => [.agg (vPuz x.puz v w)]) 1000 1001 hp rfl rfl (vwA_same _) (fun _ _ => rfl) (fun _ _ => rfl) (fun _ _ => rfl) ⟨fr_clu _, fr_int _⟩ (by decide) ⟨rfl, rfl⟩ rfl (by decide) (fun v v2 bs bs2 => ?_)
  repeat' (first|refine goM rfl ?_|refine goR rfl ?_|refine goX rfl ?_|refine goY rfl ?_)
  exact .ret (hQ _ ⟨(sel2 v v2, sel2 bs bs2), rfl, by simp, rfl, rfl, trivial⟩)
theorem toDraft_dp (x : Dra) (h : smDraft x) : CallsH PP F_laws_toDraft [] [hClu x.clues] (fun _ => [.agg (rDra x)]) (fun u => [.agg (vDra x (u 0))]) := by
  obtain ⟨h1, h2⟩ := h
  refine SQ_laws_toDraft [] [1000] (fun _ => rfl) (fun _ => ⟨Nat.le_of_ble_eq_true rfl, by simp⟩) (by simp) (by simp) (fun u Q hQ => ?_)
  simp only [rDra]
  have hgr := toGrid_ok x.grid h1
  simp only [rGrd] at hgr
  repeat' (first|refine goM rfl ?_|refine goR rfl ?_|refine goX rfl ?_|refine goY rfl ?_|refine goC (hgr) rfl rfl rfl rfl ?_)
  refine mid_callV1t (res := fun v => [.v (.val v)]) 1000 (toClueS_dp x.clues h2) rfl rfl (vwA_same _) (fun _ => rfl) (fun _ => rfl) (fun _ => rfl) (fr_clu _) (by simp) rfl rfl (by decide) (fun v bs => ?_)
  repeat' (first|refine goM rfl ?_|refine goR rfl ?_|refine goX rfl ?_|refine goY rfl ?_)
  exact .ret (hQ _ ⟨(fun _ => v, fun _ => bs), rfl, by simp, rfl, trivial⟩)
theorem toCorrection_dp (x : Cor) (h : smCorrection x) : CallsH PP F_laws_toCorrection [] [hStp x.clue.play] (fun _ => [.agg (rCor x)]) (fun u => [.agg (vCor x (u 0))]) := by
  refine SQ_laws_toCorrection [] [1000] (fun _ => rfl) (fun _ => ⟨Nat.le_of_ble_eq_true rfl, by simp⟩) (by simp) (by simp) (fun u Q hQ => ?_)
  have hc := toClue_dp x.clue h
  simp only [rCor]
  simp only [rClu] at hc
  repeat' (first|refine goM rfl ?_|refine goR rfl ?_|refine goX rfl ?_|refine goY rfl ?_)
  refine mid_callV1t (res := fun v => [.agg (vClu x.clue v)]) 1000 hc rfl rfl (vwA_same _) (fun _ => rfl) (fun _ => rfl) (fun _ => rfl) (fr_stp _) (by simp) rfl rfl (by decide) (fun v bs => ?_)
  repeat' (first|refine goM rfl ?_|refine goR rfl ?_|refine goX rfl ?_|refine goY rfl ?_)
  exact .ret (hQ _ ⟨(fun _ => v, fun _ => bs), rfl, by simp, rfl, trivial⟩)
theorem toCorrectionS_dp (xs : List Cor) (h : smCorrectionS xs) : CallsH PP F_laws_toCorrectionS [] [hCor xs] (fun _ => [.v (dCors xs)]) (fun u => [.v (.val (u 0))]) := by
  obtain ⟨hlen, hall⟩ := h
  refine SQ_laws_toCorrectionS [] [1000] (fun _ => rfl) (fun _ => ⟨Nat.le_of_ble_eq_true rfl, by simp⟩) (by simp) (by simp) (fun u Q hQ => ?_)
  have hend : ∀ (E : Env) (v : Value) (bs : List Nat), resP E [.tmp 2] = some [.v (.val v)] → get E 1000 = .heap true v bs T_impl_Correction 5 56 (xs.map oCor) → Q E := fun E v bs h1 h2 => hQ E ⟨(fun _ => v, fun _ => bs), h1, by simp, h2, trivial⟩
  clear hQ
  have key : ∀ k : Nat, ∀ (v : Value) (bs : List Nat), k ≤ xs.length → L_laws_toCorrectionS_0 PP Q [(0, .v (dCors xs)), (3, .v (.val v)), (4, .v (.int .i64 k)), (1000, .heap true v bs T_impl_Correction 5 56 (fillRows oCor [.int .i64 0, .int .i64 0, .int .i64 0, .sl 4 [], .int .i64 0] xs k)),
      (1001, .undef), (1002, .undef), (1003, .undef), (1004, .undef), (1005, .undef), (1006, .undef), (1007, .undef), (1008, .undef), (1009, .undef)] := up xs.length (fun k ih v bs hk0 => ?_)
  · repeat' (first|refine mid_mks rfl (by rw [List.length_map]; omega) (by rw [List.length_map]; omega) rfl ?_|refine goM rfl ?_|refine goR rfl ?_|refine goX rfl ?_|refine goY rfl ?_)
    refine run_name (d := 3) 1000 rfl rfl (fun v bs => ?_)
    refine run_loopF rfl ?_
    rw [List.length_map, ← fillRows_zero oCor _ xs]
    exact key 0 v bs (Nat.zero_le _)
  · repeat' (first|refine goM rfl ?_|refine goR rfl ?_|refine goX rfl ?_|refine goY rfl ?_)
    refine run_cnd_lt (n := (xs.map rCor).length) rfl (fun hk => ?_) (fun hk => ?_)
    · rw [List.length_map] at hk
      have hl : k < (fillRows oCor [.int .i64 0, .int .i64 0, .int .i64 0, .sl 4 [], .int .i64 0] xs k).length := by rw [fillRows_len _ _ _ hk0]; exact hk
      rw [← fillRows_self oCor _ xs hk]
      repeat' (first|refine mid_idxm rfl rfl hk rfl ?_|refine goM rfl ?_|refine goR rfl ?_|refine goX rfl ?_)
      refine mid_callV1t (res := fun v => [.agg (vCor xs[k] v)]) 1001 (toCorrection_dp xs[k] (hall _ (List.getElem_mem hk))) rfl rfl (vwA_same _) (fun _ => rfl) (fun _ => rfl) (fun _ => rfl) (fr_stp _) (by simp) rfl rfl (by decide) (fun w cs => ?_)
      repeat' (first|refine mid_idxS (m := 1000) hl rfl rfl rfl rfl ?_|refine mid_stoaS (m := 1000) hl rfl rfl rfl rfl rfl rfl ?_|refine goM rfl ?_|refine goR rfl ?_|refine goX rfl ?_|refine goY rfl ?_)
      refine run_closeS (m := 1000) (o := 3) (r' := oCor xs[k]) 1001 hl rfl rfl rfl (by decide) (fun h => h) rfl (fun bs' => ?_)
      rw [fillRows_set oCor _ xs hk]
      skip
      refine run_backF rfl ?_
      rw [wsucc (by omega)]
      exact ih hk v bs' (by omega)
    · rw [List.length_map] at hk
      repeat' (first|refine goM rfl ?_|refine goR rfl ?_|refine goX rfl ?_|refine goY rfl ?_)
      refine .ret (hend _ v bs rfl ?_)
      rw [← fillRows_all oCor [.int .i64 0, .int .i64 0, .int .i64 0, .sl 4 [], .int .i64 0] xs (k := k) (by omega)]; rfl
theorem toIssueS_dp (xs : List Iss) (h : smIssueS xs) : CallsH PP F_laws_toIssueS [] [hIss xs] (fun _ => [.v (dIsss xs)]) (fun u => [.v (.val (u 0))]) := by
  obtain ⟨hlen, hall⟩ := h
  refine SQ_laws_toIssueS [] [1000] (fun _ => rfl) (fun _ => ⟨Nat.le_of_ble_eq_true rfl, by simp⟩) (by simp) (by simp) (fun u Q hQ => ?_)
  have hend : ∀ (E : Env) (v : Value) (bs : List Nat), resP E [.tmp 2] = some [.v (.val v)] → get E 1000 = .heap true v bs T_impl_Issue 10 128 (xs.map oIss) → Q E := fun E v bs h1 h2 => hQ E ⟨(fun _ => v, fun _ => bs), h1, by simp, h2, trivial⟩
  clear hQ
  have key : ∀ k : Nat, ∀ (v : Value) (bs : List Nat), k ≤ xs.length → L_laws_toIssueS_0 PP Q [(0, .v (dIsss xs)), (3, .v (.val v)), (4, .v (.int .i64 k)), (1000, .heap true v bs T_impl_Issue 10 128 (fillRows oIss [.int .i64 0, .int .i64 0, .int .i64 0, .str [], .sl 2 [], .sl 1 [], .int .i64 0, .str [], .int .i64 0, .int .i64 0] xs k)),
      (1001, .undef), (1002, .undef), (1003, .undef), (1004, .undef), (1005, .undef), (1006, .undef), (1007, .undef), (1008, .undef), (1009, .undef)] := up xs.length (fun k ih v bs hk0 => ?_)
  · repeat' (first|refine mid_mks rfl (by rw [List.length_map]; omega) (by rw [List.length_map]; omega) rfl ?_|refine goM rfl ?_|refine goR rfl ?_|refine goX rfl ?_|refine goY rfl ?_)
    refine run_name (d := 3) 1000 rfl rfl (fun v bs => ?_)
    refine run_loopF rfl ?_
    rw [List.length_map, ← fillRows_zero oIss _ xs]
    exact key 0 v bs (Nat.zero_le _)
  · repeat' (first|refine goM rfl ?_|refine goR rfl ?_|refine goX rfl ?_|refine goY rfl ?_)
    refine run_cnd_lt (n := (xs.map rIss).length) rfl (fun hk => ?_) (fun hk => ?_)
    · rw [List.length_map] at hk
      have hl : k < (fillRows oIss [.int .i64 0, .int .i64 0, .int .i64 0, .str [], .sl 2 [], .sl 1 [], .int .i64 0, .str [], .int .i64 0, .int .i64 0] xs k).length := by rw [fillRows_len _ _ _ hk0]; exact hk
      rw [← fillRows_self oIss _ xs hk]
      repeat' (first|refine mid_idxm rfl rfl hk rfl ?_|refine goM rfl ?_|refine goR rfl ?_|refine goX rfl ?_)
      refine mid_callV2t (res := fun v w => [.agg (vIss xs[k] v w)]) 1001 1002 (toIssue_dp xs[k] (hall _ (List.getElem_mem hk))) rfl rfl (vwA_same _) (fun _ _ => rfl) (fun _ _ => rfl) (fun _ _ => rfl) ⟨fr_clu _, fr_int _⟩ (by decide) ⟨rfl, rfl⟩ rfl (by decide) (fun w w2 cs cs2 => ?_)
      repeat' (first|refine mid_idxS (m := 1000) hl rfl rfl rfl rfl ?_|refine mid_stoaS (m := 1000) hl rfl rfl rfl rfl rfl rfl ?_|refine goM rfl ?_|refine goR rfl ?_|refine goX rfl ?_|refine goY rfl ?_)
      refine run_closeS (m := 1000) (o := 4) (r' := (vIss xs[k] w w2).set 4 (.own T_impl_Clue 2 32 (xs[k].puz.clues.map oClu))) 1001 hl rfl rfl rfl (by decide) (fun h => h) rfl (fun bs' => ?_)
      refine run_closeS (m := 1000) (o := 5) (r' := oIss xs[k]) 1002 hl rfl rfl rfl (by decide) (fun h => h) rfl (fun bs' => ?_)
      rw [fillRows_set oIss _ xs hk]
      skip
      refine run_backF rfl ?_
      rw [wsucc (by omega)]
      exact ih hk v bs' (by omega)
    · rw [List.length_map] at hk
      repeat' (first|refine goM rfl ?_|refine goR rfl ?_|refine goX rfl ?_|refine goY rfl ?_)
      refine .ret (hend _ v bs rfl ?_)
      rw [← fillRows_all oIss [.int .i64 0, .int .i64 0, .int .i64 0, .str [], .sl 2 [], .sl 1 [], .int .i64 0, .str [], .int .i64 0, .int .i64 0] xs (k := k) (by omega)]; rfl
theorem toHouse_dp (h : Hou) (hs : smHouse h) : CallsH PP F_laws_toHouse [] (hHou h) (fun _ => [.agg (rHou h)]) (fun u => [.agg (vHou h (u 0) (u 1) (u 2) (u 3) (u 4) (u 5) (u 6))]) := by
  obtain ⟨h1, h2, h3, h4, h5, h6, h7⟩ := hs
  refine SQ_laws_toHouse [] [1000, 1001, 1002, 1003, 1004, 1005, 1006] (fun _ => rfl) (fun _ => ⟨Nat.le_of_ble_eq_true rfl, by simp⟩) (by simp) (by simp) (fun u Q hQ => ?_)
  have hd := toDraft_dp h.desk h3
  simp only [rHou]
  simp only [rDra] at hd
  repeat' (first|refine goM rfl ?_|refine goR rfl ?_|refine goX rfl ?_|refine goY rfl ?_)
  refine mid_callN 1000 (toListedS_ok h.list h1) rfl (vwA_same _) rfl (fr_lis _) rfl rfl (by decide) (fun v0 b0 => ?_)
  repeat' (first|refine goM rfl ?_|refine goR rfl ?_|refine goX rfl ?_|refine goY rfl ?_)
  refine mid_callN 1001 (toMeaningS_ok h.dict h2) rfl (vwA_same _) rfl (fr_mea _) rfl rfl (by decide) (fun v1 b1 => ?_)
  repeat' (first|refine goM rfl ?_|refine goR rfl ?_|refine goX rfl ?_|refine goY rfl ?_)
  refine mid_callV1t (res := fun v => [.agg (vDra h.desk v)]) 1002 hd rfl rfl (vwA_same _) (fun _ => rfl) (fun _ => rfl) (fun _ => rfl) (fr_clu _) (by simp) rfl rfl (by decide) (fun v2 b2 => ?_)
  repeat' (first|refine goM rfl ?_|refine goR rfl ?_|refine goX rfl ?_|refine goY rfl ?_)
  refine mid_callV1t (res := fun v => [.v (.val v)]) 1003 (toIssueS_dp h.issues h4) rfl rfl (vwA_same _) (fun _ => rfl) (fun _ => rfl) (fun _ => rfl) (fr_iss _) (by simp) rfl rfl (by decide) (fun v3 b3 => ?_)
  repeat' (first|refine goM rfl ?_|refine goR rfl ?_|refine goX rfl ?_|refine goY rfl ?_)
  refine mid_callN 1004 (toUsedS_ok h.uses h5) rfl (vwA_same _) rfl (fr_use _) rfl rfl (by decide) (fun v4 b4 => ?_)
  repeat' (first|refine goM rfl ?_|refine goR rfl ?_|refine goX rfl ?_|refine goY rfl ?_)
  refine mid_callV1t (res := fun v => [.v (.val v)]) 1005 (toCorrectionS_dp h.cors h6) rfl rfl (vwA_same _) (fun _ => rfl) (fun _ => rfl) (fun _ => rfl) (fr_cor _) (by simp) rfl rfl (by decide) (fun v5 b5 => ?_)
  repeat' (first|refine goM rfl ?_|refine goR rfl ?_|refine goX rfl ?_|refine goY rfl ?_)
  refine mid_callN 1006 (toEntryS_ok h.ents h7) rfl (vwA_same _) rfl (fr_ent _) rfl rfl (by decide) (fun v6 b6 => ?_)
  repeat' (first|refine goM rfl ?_|refine goR rfl ?_|refine goX rfl ?_|refine goY rfl ?_)
  exact .ret (hQ _ ⟨(selV v0 v1 v2 v3 v4 v5 v6, selV b0 b1 b2 b3 b4 b5 b6), rfl, by simp, rfl, rfl, rfl, rfl, rfl, rfl, rfl, trivial⟩)
end Go.Rd

namespace Go.Rd
open Go.Proofs
set_option linter.unusedSimpArgs false
set_option linter.unusedVariables false
set_option maxRecDepth 10000
set_option maxHeartbeats 1000000
theorem Clone_impl_Listed (es : List (List DV)) (hl : es.length ≤ 1048576) : CallsOK PP F_slices_Clone_impl_Listed [.v (.sl 4 es)] [.own T_impl_Listed 4 40 es] := by
  refine S_slices_Clone_impl_Listed rfl (Nat.le_of_ble_eq_true rfl) ?_
  repeat' (first|refine goM rfl ?_|refine goR rfl ?_|refine goX rfl ?_|refine goY rfl ?_)
  refine run_cndU rfl (fun he => ?_) (fun _ => ?_)
  · repeat' (first|refine goM rfl ?_|refine goR rfl ?_|refine goX rfl ?_|refine goY rfl ?_)
    (first|refine run_ret rfl ?_|refine run_done rfl ?_)
    subst he; rfl
  · repeat' (first|refine mid_app rfl rfl rfl (by decide) rfl (by simp; omega) (by simp; omega) ?_|refine goM rfl ?_|refine goR rfl ?_|refine goX rfl ?_|refine goY rfl ?_)
    (first|refine run_ret rfl ?_|refine run_done rfl ?_)
    rfl
theorem Clone_impl_Meaning (es : List (List DV)) (hl : es.length ≤ 1048576) : CallsOK PP F_slices_Clone_impl_Meaning [.v (.sl 2 es)] [.own T_impl_Meaning 2 24 es] := by
  refine S_slices_Clone_impl_Meaning rfl (Nat.le_of_ble_eq_true rfl) ?_
  repeat' (first|refine goM rfl ?_|refine goR rfl ?_|refine goX rfl ?_|refine goY rfl ?_)
  refine run_cndU rfl (fun he => ?_) (fun _ => ?_)
  · repeat' (first|refine goM rfl ?_|refine goR rfl ?_|refine goX rfl ?_|refine goY rfl ?_)
    (first|refine run_ret rfl ?_|refine run_done rfl ?_)
    subst he; rfl
  · repeat' (first|refine mid_app rfl rfl rfl (by decide) rfl (by simp; omega) (by simp; omega) ?_|refine goM rfl ?_|refine goR rfl ?_|refine goX rfl ?_|refine goY rfl ?_)
    (first|refine run_ret rfl ?_|refine run_done rfl ?_)
    rfl
theorem Clone_impl_Used (es : List (List DV)) (hl : es.length ≤ 1048576) : CallsOK PP F_slices_Clone_impl_Used [.v (.sl 2 es)] [.own T_impl_Used 2 24 es] := by
  refine S_slices_Clone_impl_Used rfl (Nat.le_of_ble_eq_true rfl) ?_
  repeat' (first|refine goM rfl ?_|refine goR rfl ?_|refine goX rfl ?_|refine goY rfl ?_)
  refine run_cndU rfl (fun he => ?_) (fun _ => ?_)
  · repeat' (first|refine goM rfl ?_|refine goR rfl ?_|refine goX rfl ?_|refine goY rfl ?_)
    (first|refine run_ret rfl ?_|refine run_done rfl ?_)
    subst he; rfl
  · repeat' (first|refine mid_app rfl rfl rfl (by decide) rfl (by simp; omega) (by simp; omega) ?_|refine goM rfl ?_|refine goR rfl ?_|refine goX rfl ?_|refine goY rfl ?_)
    (first|refine run_ret rfl ?_|refine run_done rfl ?_)
    rfl
theorem Clone_impl_Entry (es : List (List DV)) (hl : es.length ≤ 1048576) : CallsOK PP F_slices_Clone_impl_Entry [.v (.sl 4 es)] [.own T_impl_Entry 4 40 es] := by
  refine S_slices_Clone_impl_Entry rfl (Nat.le_of_ble_eq_true rfl) ?_
  repeat' (first|refine goM rfl ?_|refine goR rfl ?_|refine goX rfl ?_|refine goY rfl ?_)
  refine run_cndU rfl (fun he => ?_) (fun _ => ?_)
  · repeat' (first|refine goM rfl ?_|refine goR rfl ?_|refine goX rfl ?_|refine goY rfl ?_)
    (first|refine run_ret rfl ?_|refine run_done rfl ?_)
    subst he; rfl
  · repeat' (first|refine mid_app rfl rfl rfl (by decide) rfl (by simp; omega) (by simp; omega) ?_|refine goM rfl ?_|refine goR rfl ?_|refine goX rfl ?_|refine goY rfl ?_)
    (first|refine run_ret rfl ?_|refine run_done rfl ?_)
    rfl
theorem Clone_impl_Step (es : List (List DV)) (hl : es.length ≤ 1048576) : CallsOK PP F_slices_Clone_impl_Step [.v (.sl 4 es)] [.own T_impl_Step 4 40 es] := by
  refine S_slices_Clone_impl_Step rfl (Nat.le_of_ble_eq_true rfl) ?_
  repeat' (first|refine goM rfl ?_|refine goR rfl ?_|refine goX rfl ?_|refine goY rfl ?_)
  refine run_cndU rfl (fun he => ?_) (fun _ => ?_)
  · repeat' (first|refine goM rfl ?_|refine goR rfl ?_|refine goX rfl ?_|refine goY rfl ?_)
    (first|refine run_ret rfl ?_|refine run_done rfl ?_)
    subst he; rfl
  · repeat' (first|refine mid_app rfl rfl rfl (by decide) rfl (by simp; omega) (by simp; omega) ?_|refine goM rfl ?_|refine goR rfl ?_|refine goX rfl ?_|refine goY rfl ?_)
    (first|refine run_ret rfl ?_|refine run_done rfl ?_)
    rfl
theorem Clone_int (es : List (List DV)) (hl : es.length ≤ 1048576) : CallsOK PP F_slices_Clone_int [.v (.sl 1 es)] [.own T_int 1 8 es] := by
  refine S_slices_Clone_int rfl (Nat.le_of_ble_eq_true rfl) ?_
  repeat' (first|refine goM rfl ?_|refine goR rfl ?_|refine goX rfl ?_|refine goY rfl ?_)
  refine run_cndU rfl (fun he => ?_) (fun _ => ?_)
  · repeat' (first|refine goM rfl ?_|refine goR rfl ?_|refine goX rfl ?_|refine goY rfl ?_)
    (first|refine run_ret rfl ?_|refine run_done rfl ?_)
    subst he; rfl
  · repeat' (first|refine mid_app rfl rfl rfl (by decide) rfl (by simp; omega) (by simp; omega) ?_|refine goM rfl ?_|refine goR rfl ?_|refine goX rfl ?_|refine goY rfl ?_)
    (first|refine run_ret rfl ?_|refine run_done rfl ?_)
    rfl
theorem len_map {α : Type} {f : α → List DV} {l : List α} (h : l.length ≤ 1048576) : (l.map f).length ≤ 1048576 := by rw [List.length_map]; exact h
theorem copyClue_dp (x : Clu) (h : smClue x) : CallsH PP F_impl_copyClue [] [hStp x.play] (fun _ => [.agg (rClu x)]) (fun u => [.agg (vClu x (u 0))]) := by
  refine SQ_impl_copyClue [] [1000] (fun _ => rfl) (fun _ => ⟨Nat.le_of_ble_eq_true rfl, by simp⟩) (by simp) (by simp) (fun u Q hQ => ?_)
  simp only [rClu]
  repeat' (first|refine mix_run rfl ?_|refine goF rfl ?_|refine mixF_nil rfl rfl rfl rfl ?_|refine goM rfl ?_|refine goR rfl ?_|refine goX rfl ?_|refine goY rfl ?_)
  refine mixP_call1 (n := 1000) (res := fun v => [.v (.val v)]) rfl rfl rfl (callsH_of_own (Clone_impl_Step (x.play.map rStp) (len_map h.1))) rfl rfl rfl (fun _ => rfl) (fun _ => rfl) (fun _ => rfl) (fr_stp _) rfl (by decide) rfl (fun v bs => ?_)
  repeat' (first|refine goS rfl rfl rfl rfl rfl rfl rfl ?_|refine mixP_nil rfl rfl ?_)
  exact .ret (hQ _ ⟨(fun _ => v, fun _ => bs), rfl, by simp, rfl, trivial⟩)
theorem copyClues_dp (xs : List Clu) (h : smClueS xs) : CallsH PP F_impl_copyClues [] [hClu xs] (fun _ => [.v (dClus xs)]) (fun u => [.v (.val (u 0))]) := by
  obtain ⟨hlen, hall⟩ := h
  refine SQ_impl_copyClues [] [1000] (fun _ => rfl) (fun _ => ⟨Nat.le_of_ble_eq_true rfl, by simp⟩) (by simp) (by simp) (fun u Q hQ => ?_)
  have hend : ∀ (E : Env) (v : Value) (bs : List Nat), resP E [.tmp 2] = some [.v (.val v)] → get E 1000 = .heap true v bs T_impl_Clue 2 32 (xs.map oClu) → Q E := fun E v bs h1 h2 => hQ E ⟨(fun _ => v, fun _ => bs), h1, by simp, h2, trivial⟩
  clear hQ
  have key : ∀ k : Nat, ∀ (v : Value) (bs : List Nat), k ≤ xs.length → L_impl_copyClues_0 PP Q [(0, .v (dClus xs)), (3, .v (.val v)), (6, .v (dClus xs)), (7, .v (.int .i64 xs.length)), (8, .v (.int .i64 k)), (1000, .heap true v bs T_impl_Clue 2 32 ((xs.take k).map oClu)),
      (1001, .undef), (1002, .undef), (1003, .undef), (1004, .undef), (1005, .undef), (1006, .undef), (1007, .undef), (1008, .undef), (1009, .undef)] := up xs.length (fun k ih v bs hk0 => ?_)
  · repeat' (first|refine goM rfl ?_|refine goR rfl ?_|refine goX rfl ?_|refine goY rfl ?_)
    rw [List.length_map]
    refine run_name (d := 3) 1000 rfl rfl (fun v bs => ?_)
    refine run_loopF rfl ?_
    exact key 0 v bs (Nat.zero_le _)
  · repeat' (first|refine goM rfl ?_|refine goR rfl ?_|refine goX rfl ?_|refine goY rfl ?_)
    refine run_cnd_lt rfl (fun hk => ?_) (fun hk => ?_)
    · have ih := ih hk
      rw [map_take_succ _ _ hk] at ih
      repeat' (first|refine mid_idxm rfl rfl hk rfl ?_|refine goM rfl ?_|refine goR rfl ?_|refine goX rfl ?_|refine goY rfl ?_)
      refine mid_callV1t (res := fun v => [.agg (vClu xs[k] v)]) 1001 (copyClue_dp xs[k] (hall _ (List.getElem_mem hk))) rfl rfl (vwA_same _) (fun _ => rfl) (fun _ => rfl) (fun _ => rfl) (fr_stp _) (by simp) rfl rfl (by decide) (fun w cs => ?_)
      repeat' refine goM rfl ?_
      refine mid_appH (m := 1000) rfl rfl rfl rfl (by decide) (by simp; omega) (by simp; omega) (fun v' bs' => ?_)
      repeat' (first|refine goM rfl ?_|refine goR rfl ?_|refine goX rfl ?_|refine goY rfl ?_)
      refine run_closeA (m := 1000) (o := 1) (r' := oClu xs[k]) 1001 rfl rfl rfl (by decide) (fun h => h) rfl (fun bs'' => ?_)
      refine run_backF rfl ?_
      rw [wsucc (by omega)]
      exact ih v' bs'' (by omega)
    · repeat' (first|refine goM rfl ?_|refine goR rfl ?_|refine goX rfl ?_|refine goY rfl ?_)
      refine .ret (hend _ v bs rfl ?_)
      rw [List.take_of_length_le (by omega)]; rfl
theorem copyDraft_dp (x : Dra) (h : smDraft x) : CallsH PP F_impl_copyDraft [] [hClu x.clues] (fun _ => [.agg (rDra x)]) (fun u => [.agg (vDra x (u 0))]) := by
  obtain ⟨h1, h2⟩ := h
  refine SQ_impl_copyDraft [] [1000] (fun _ => rfl) (fun _ => ⟨Nat.le_of_ble_eq_true rfl, by simp⟩) (by simp) (by simp) (fun u Q hQ => ?_)
  simp only [rDra]
  repeat' (first|refine goM rfl ?_|refine goR rfl ?_|refine goX rfl ?_|refine goY rfl ?_)
  refine mid_callV1t (res := fun v => [.v (.val v)]) 1000 (copyClues_dp x.clues h2) rfl rfl (vwA_same _) (fun _ => rfl) (fun _ => rfl) (fun _ => rfl) (fr_clu _) (by simp) rfl rfl (by decide) (fun v bs => ?_)
  repeat' (first|refine goM rfl ?_|refine goR rfl ?_|refine goX rfl ?_|refine goY rfl ?_)
  exact .ret (hQ _ ⟨(fun _ => v, fun _ => bs), rfl, by simp, rfl, trivial⟩)
theorem copyPuzzle_dp (x : Puz) (h : smPuzzle x) : CallsH PP F_impl_copyPuzzle [] [hClu x.clues, hInt x.seals] (fun _ => [.agg (rPuz x)]) (fun u => [.agg (vPuz x (u 0) (u 1))]) := by
  obtain ⟨h1, h2, h3⟩ := h
  refine SQ_impl_copyPuzzle [] [1000, 1001] (fun _ => rfl) (fun _ => ⟨Nat.le_of_ble_eq_true rfl, by simp⟩) (by simp) (by simp) (fun u Q hQ => ?_)
  simp only [rPuz]
  repeat' (first|refine mix_run rfl ?_|refine goF rfl ?_|refine mixF_nil rfl rfl rfl rfl ?_|refine goM rfl ?_|refine goR rfl ?_|refine goX rfl ?_|refine goY rfl ?_)
  refine mixP_call1 (n := 1000) (res := fun v => [.v (.val v)]) rfl rfl rfl (copyClues_dp x.clues h2) rfl rfl rfl (fun _ => rfl) (fun _ => rfl) (fun _ => rfl) (fr_clu _) rfl (by decide) rfl (fun v bs => ?_)
  refine mixP_call1 (n := 1001) (res := fun v => [.v (.val v)]) rfl rfl rfl (callsH_of_own (Clone_int (x.seals.map rI) (len_map h3.1))) rfl rfl rfl (fun _ => rfl) (fun _ => rfl) (fun _ => rfl) (fr_int _) rfl (by decide) rfl (fun v2 bs2 => ?_)
  repeat' (first|refine goS rfl rfl rfl rfl rfl rfl rfl ?_|refine mixP_nil rfl rfl ?_)
  exact .ret (hQ _ ⟨(sel2 v v2, sel2 bs bs2), rfl, by simp, rfl, rfl, trivial⟩)
theorem copyIssue_dp (x : Iss) (h : smIssue x) : CallsH PP F_impl_copyIssue [] [hClu x.puz.clues, hInt x.puz.seals] (fun _ => [.agg (rIss x)]) (fun u => [.agg (vIss x (u 0) (u 1))]) := by
  refine SQ_impl_copyIssue [] [1000, 1001] (fun _ => rfl) (fun _ => ⟨Nat.le_of_ble_eq_true rfl, by simp⟩) (by simp) (by simp) (fun u Q hQ => ?_)
  have hp := copyPuzzle_dp x.puz h
  simp only [rIss]
  simp only [rPuz] at hp
  repeat' (first|refine goM rfl ?_|refine goR rfl ?_|refine goX rfl ?_|refine goY rfl ?_)
  refine mid_callV2t (res := fun v w => [.agg (vPuz x.puz v w)]) 1000 1001 hp rfl rfl (vwA_same _) (fun _ _ => rfl) (fun _ _ => rfl) (fun _ _ => rfl) ⟨fr_clu _, fr_int _⟩ (by decide) ⟨rfl, rfl⟩ rfl (by decide) (fun v v2 bs bs2 => ?_)
  repeat' (first|refine goM rfl ?_|refine goR rfl ?_|refine goX rfl ?_|refine goY rfl ?_)
  exact .ret (hQ _ ⟨(sel2 v v2, sel2 bs bs2), rfl, by simp, rfl, rfl, trivial⟩)
theorem copyCorrections_dp (xs : List Cor) (h : smCorrectionS xs) : CallsH PP F_impl_copyCorrections [] [hCor xs] (fun _ => [.v (dCors xs)]) (fun u => [.v (.val (u 0))]) := by
  obtain ⟨hlen, hall⟩ := h
  refine SQ_impl_copyCorrections [] [1000] (fun _ => rfl) (fun _ => ⟨Nat.le_of_ble_eq_true rfl, by simp⟩) (by simp) (by simp) (fun u Q hQ => ?_)
  have hend : ∀ (E : Env) (v : Value) (bs : List Nat), resP E [.tmp 2] = some [.v (.val v)] → get E 1000 = .heap true v bs T_impl_Correction 5 56 (xs.map oCor) → Q E := fun E v bs h1 h2 => hQ E ⟨(fun _ => v, fun _ => bs), h1, by simp, h2, trivial⟩
  clear hQ
  have key : ∀ k : Nat, ∀ (v : Value) (bs : List Nat), k ≤ xs.length → L_impl_copyCorrections_0 PP Q [(0, .v (dCors xs)), (3, .v (.val v)), (6, .v (dCors xs)), (7, .v (.int .i64 xs.length)), (8, .v (.int .i64 k)), (1000, .heap true v bs T_impl_Correction 5 56 ((xs.take k).map oCor)),
      (1001, .undef), (1002, .undef), (1003, .undef), (1004, .undef), (1005, .undef), (1006, .undef), (1007, .undef), (1008, .undef), (1009, .undef)] := up xs.length (fun k ih v bs hk0 => ?_)
  · repeat' (first|refine goM rfl ?_|refine goR rfl ?_|refine goX rfl ?_|refine goY rfl ?_)
    rw [List.length_map]
    refine run_name (d := 3) 1000 rfl rfl (fun v bs => ?_)
    refine run_loopF rfl ?_
    exact key 0 v bs (Nat.zero_le _)
  · repeat' (first|refine goM rfl ?_|refine goR rfl ?_|refine goX rfl ?_|refine goY rfl ?_)
    refine run_cnd_lt rfl (fun hk => ?_) (fun hk => ?_)
    · have ih := ih hk
      rw [map_take_succ _ _ hk] at ih
      have hc := copyClue_dp xs[k].clue (hall _ (List.getElem_mem hk))
      simp only [rClu] at hc
      repeat' (first|refine mid_idxm rfl rfl hk rfl ?_|refine goM rfl ?_|refine goR rfl ?_|refine goX rfl ?_|refine goY rfl ?_)
      refine mid_callV1t (res := fun v => [.agg (vClu xs[k].clue v)]) 1001 hc rfl rfl (vwA_same _) (fun _ => rfl) (fun _ => rfl) (fun _ => rfl) (fr_stp _) (by simp) rfl rfl (by decide) (fun w cs => ?_)
      repeat' (first|refine goM rfl ?_|refine goX rfl ?_|refine goY rfl ?_)
      refine mid_appH (m := 1000) rfl rfl rfl rfl (by decide) (by simp; omega) (by simp; omega) (fun v' bs' => ?_)
      repeat' (first|refine goM rfl ?_|refine goR rfl ?_|refine goX rfl ?_|refine goY rfl ?_)
      refine run_closeA (m := 1000) (o := 3) (r' := oCor xs[k]) 1001 rfl rfl rfl (by decide) (fun h => h) rfl (fun bs'' => ?_)
      refine run_backF rfl ?_
      rw [wsucc (by omega)]
      exact ih v' bs'' (by omega)
    · repeat' (first|refine goM rfl ?_|refine goR rfl ?_|refine goX rfl ?_|refine goY rfl ?_)
      refine .ret (hend _ v bs rfl ?_)
      rw [List.take_of_length_le (by omega)]; rfl
theorem copyHouse_dp (h : Hou) (hs : smHouse h) : CallsH PP F_impl_copyHouse [] (hHou h) (fun _ => [.agg (rHou h)]) (fun u => [.agg (vHou h (u 0) (u 1) (u 2) (u 3) (u 4) (u 5) (u 6))]) := by
  obtain ⟨h1, h2, h3, ⟨h4, h4'⟩, h5, h6, h7⟩ := hs
  refine SQ_impl_copyHouse [] [1000, 1001, 1002, 1003, 1004, 1005, 1006] (fun _ => rfl) (fun _ => ⟨Nat.le_of_ble_eq_true rfl, by simp⟩) (by simp) (by simp) (fun u Q hQ => ?_)
  have hd := copyDraft_dp h.desk h3
  simp only [rHou]
  simp only [rDra] at hd
  repeat' (first|refine goM rfl ?_|refine goR rfl ?_|refine goX rfl ?_|refine goY rfl ?_)
  refine mid_callN 1000 (Clone_impl_Listed _ (len_map h1.1)) rfl (vwA_same _) rfl (fr_lis _) rfl rfl (by decide) (fun v0 b0 => ?_)
  repeat' (first|refine goM rfl ?_|refine goR rfl ?_|refine goX rfl ?_|refine goY rfl ?_)
  refine mid_callN 1001 (Clone_impl_Meaning _ (len_map h2.1)) rfl (vwA_same _) rfl (fr_mea _) rfl rfl (by decide) (fun v1 b1 => ?_)
  repeat' (first|refine goM rfl ?_|refine goR rfl ?_|refine goX rfl ?_|refine goY rfl ?_)
  refine mid_callV1t (res := fun v => [.agg (vDra h.desk v)]) 1002 hd rfl rfl (vwA_same _) (fun _ => rfl) (fun _ => rfl) (fun _ => rfl) (fr_clu _) (by simp) rfl rfl (by decide) (fun v2 b2 => ?_)
  repeat' (first|refine goM rfl ?_|refine goR rfl ?_|refine goX rfl ?_|refine goY rfl ?_)
  rw [List.length_map]
  refine run_name (d := 3) 1003 rfl rfl (fun v3 b3 => ?_)
  refine run_loopF rfl ?_
  have key : ∀ k : Nat, ∀ (v3 : Value) (b3 : List Nat), k ≤ h.issues.length → L_impl_copyHouse_0 PP Q [(1, .box [.val v0, .val v1, dI h.desk.grid.rows, dI h.desk.grid.cols, dS h.desk.grid.cells, dS h.desk.fill, .val v2, dI h.desk.ver, dIsss h.issues, dUses h.uses, dCors h.cors, dEnts h.ents, dI h.now]),
      (2, .box [.sl 4 [], .sl 2 [], .int .i64 0, .int .i64 0, .str [], .str [], .sl 2 [], .int .i64 0, .sl 10 [], .sl 2 [], .sl 5 [], .sl 4 [], .int .i64 0]), (3, .v (.val v3)), (19, .v (dIsss h.issues)), (20, .v (.int .i64 h.issues.length)), (21, .v (.int .i64 k)),
      (1000, .heap true v0 b0 T_impl_Listed 4 40 (h.list.map rLis)), (1001, .heap true v1 b1 T_impl_Meaning 2 24 (h.dict.map rMea)), (1002, .heap true v2 b2 T_impl_Clue 2 32 (h.desk.clues.map oClu)), (1003, .heap true v3 b3 T_impl_Issue 10 128 ((h.issues.take k).map oIss)), (1004, .undef), (1005, .undef), (1006, .undef), (1007, .undef), (1008, .undef), (1009, .undef)] := up h.issues.length (fun k ih v3 b3 hk0 => ?_)
  · exact key 0 v3 b3 (Nat.zero_le _)
  · repeat' (first|refine goM rfl ?_|refine goR rfl ?_|refine goX rfl ?_|refine goY rfl ?_)
    refine run_cnd_lt rfl (fun hk => ?_) (fun hk => ?_)
    · have ih := ih hk
      rw [map_take_succ _ _ hk] at ih
      have hi := copyIssue_dp h.issues[k] (h4' _ (List.getElem_mem hk))
      repeat' (first|refine mid_idxm rfl rfl hk rfl ?_|refine goM rfl ?_|refine goR rfl ?_|refine goX rfl ?_|refine goY rfl ?_)
      refine mid_callV2t (res := fun v w => [.agg (vIss h.issues[k] v w)]) 1007 1008 hi rfl rfl (vwA_same _) (fun _ _ => rfl) (fun _ _ => rfl) (fun _ _ => rfl) ⟨fr_clu _, fr_int _⟩ (by decide) ⟨rfl, rfl⟩ rfl (by decide) (fun w w2 cs cs2 => ?_)
      repeat' refine goM rfl ?_
      refine mid_appH (m := 1003) rfl rfl rfl rfl (by decide) (by simp; omega) (by simp; omega) (fun v' bs' => ?_)
      repeat' (first|refine goM rfl ?_|refine goR rfl ?_|refine goX rfl ?_|refine goY rfl ?_)
      refine run_closeA (m := 1003) (o := 4) (r' := (vIss h.issues[k] w w2).set 4 (.own T_impl_Clue 2 32 (h.issues[k].puz.clues.map oClu))) 1007 rfl rfl rfl (by decide) (fun h => h) rfl (fun bs2 => ?_)
      refine run_closeA (m := 1003) (o := 5) (r' := oIss h.issues[k]) 1008 rfl rfl rfl (by decide) (fun h => h) rfl (fun bs3 => ?_)
      refine run_backF rfl ?_
      rw [wsucc (by omega)]
      exact ih v' bs3 (by omega)
    · rw [List.take_of_length_le (by omega)]
      repeat' (first|refine goM rfl ?_|refine goR rfl ?_|refine goX rfl ?_|refine goY rfl ?_)
      refine mid_callN 1004 (Clone_impl_Used _ (len_map h5.1)) rfl (vwA_same _) rfl (fr_use _) rfl rfl (by decide) (fun v4 b4 => ?_)
      repeat' (first|refine goM rfl ?_|refine goR rfl ?_|refine goX rfl ?_|refine goY rfl ?_)
      refine mid_callV1t (res := fun v => [.v (.val v)]) 1005 (copyCorrections_dp h.cors h6) rfl rfl (vwA_same _) (fun _ => rfl) (fun _ => rfl) (fun _ => rfl) (fr_cor _) (by simp) rfl rfl (by decide) (fun v5 b5 => ?_)
      repeat' (first|refine goM rfl ?_|refine goR rfl ?_|refine goX rfl ?_|refine goY rfl ?_)
      refine mid_callN 1006 (Clone_impl_Entry _ (len_map h7.1)) rfl (vwA_same _) rfl (fr_ent _) rfl rfl (by decide) (fun v6 b6 => ?_)
      repeat' (first|refine goM rfl ?_|refine goR rfl ?_|refine goX rfl ?_|refine goY rfl ?_)
      exact .ret (hQ _ ⟨(selV v0 v1 v2 v3 v4 v5 v6, selV b0 b1 b2 b3 b4 b5 b6), rfl, by simp, rfl, rfl, rfl, rfl, rfl, rfl, rfl, trivial⟩)
end Go.Rd

namespace Go.Rd
open Go.Proofs
set_option linter.unusedSimpArgs false
set_option linter.unusedVariables false
set_option maxRecDepth 10000
set_option maxHeartbeats 1000000
abbrev kClu (l : List Clu) : HT := ⟨T_impl_Clue, 2, 32, l.map rClu⟩
theorem l18Copy_ok (x : Clu) (h : smClue x) : CallsOK PP F_spec_l18Copy [.agg (rClu x)] [.agg (rClu x)] := by
  refine S_spec_l18Copy rfl (Nat.le_of_ble_eq_true rfl) ?_
  have h1 := h.1
  simp only [rClu]
  repeat' (first|refine goAa rfl rfl (by decide) (by simp <;> omega) (by simp <;> omega) rfl ?_|refine goAf [8] rfl ?_|refine goM rfl ?_|refine goR rfl ?_|refine goX rfl ?_|refine goY rfl ?_|refine goA rfl ?_|refine any_run ?_|refine any_nil (by kernel_rfl) rfl ?_)
  (first|refine run_ret rfl ?_|refine run_done rfl ?_)
  rfl
theorem l21Clues_ok (xs : List Clu) (h : smClueS xs) : CallsOK PP F_spec_l21Clues [.v (dClus xs)] [.own T_impl_Clue 2 32 (xs.map rClu)] := by
  obtain ⟨hlen, hall⟩ := h
  refine S_spec_l21Clues rfl (Nat.le_of_ble_eq_true rfl) ?_
  have key : ∀ k : Nat, k ≤ xs.length → L_spec_l21Clues_0 PP [(0, .v (dClus xs)), (3, .own T_impl_Clue 2 32 ((xs.take k).map rClu)), (4, .v (.int .i64 k))] [.own T_impl_Clue 2 32 (xs.map rClu)] := up xs.length (fun k ih hk0 => ?_)
  · repeat' (first|refine goM rfl ?_|refine goR rfl ?_|refine goX rfl ?_|refine goY rfl ?_)
    refine run_loopF rfl ?_
    exact key 0 (Nat.zero_le _)
  · repeat' (first|refine goM rfl ?_|refine goR rfl ?_|refine goX rfl ?_|refine goY rfl ?_)
    rw [List.length_map]
    refine run_cnd_lt rfl (fun hk => ?_) (fun hk => ?_)
    · have ih := ih hk
      rw [map_take_succ _ _ hk] at ih
      have hc := l18Copy_ok xs[k] (hall _ (List.getElem_mem hk))
      simp only [rClu] at hc
      repeat' (first|refine mid_idxm rfl rfl hk rfl ?_|refine mid_app rfl rfl rfl (by decide) rfl (by simp; omega) (by simp; omega) ?_|refine goM rfl ?_|refine goR rfl ?_|refine goX rfl ?_|refine goY rfl ?_|refine goC (hc) rfl rfl rfl rfl ?_)
      refine run_backF rfl ?_
      rw [wsucc (by omega)]
      exact ih (by omega)
    · repeat' (first|refine goM rfl ?_|refine goR rfl ?_|refine goX rfl ?_|refine goY rfl ?_)
      (first|refine run_ret rfl ?_|refine run_done rfl ?_)
      rw [List.take_of_length_le (by omega)]
theorem l27Copy_dp (x : Dra) (h : smDraft x) : CallsH PP F_spec_l27Copy [] [kClu x.clues] (fun _ => [.agg (rDra x)]) (fun u => [.agg (vDra x (u 0))]) := by
  refine SQ_spec_l27Copy [] [1000] (fun _ => rfl) (fun _ => ⟨Nat.le_of_ble_eq_true rfl, by simp⟩) (by simp) (by simp) (fun u Q hQ => ?_)
  simp only [rDra]
  repeat' (first|refine goM rfl ?_|refine goR rfl ?_|refine goX rfl ?_|refine goY rfl ?_)
  refine mid_callF1 (res := fun v => [.v (.val v)]) 1000 (callsH_of_own (l21Clues_ok x.clues h.2)) rfl rfl (fun _ => rfl) (fun _ => rfl) rfl rfl (by decide) (fun v bs => ?_)
  repeat' (first|refine goM rfl ?_|refine goR rfl ?_|refine goX rfl ?_|refine goY rfl ?_)
  exact .ret (hQ _ ⟨(fun _ => v, fun _ => bs), rfl, by simp, rfl, trivial⟩)
theorem l27Copy_ok (x : Dra) (h : smDraft x) : CallsOK PP F_spec_l27Copy [.agg (rDra x)] [.agg (rDra x)] := by
  refine S_spec_l27Copy rfl (Nat.le_of_ble_eq_true rfl) ?_
  simp only [rDra]
  repeat' (first|refine goM rfl ?_|refine goR rfl ?_|refine goX rfl ?_|refine goY rfl ?_|refine goC (l21Clues_ok x.clues h.2) rfl rfl rfl rfl ?_)
  (first|refine run_ret rfl ?_|refine run_done rfl ?_)
  rfl
theorem l21Copy_ok (x : Puz) (h : smPuzzle x) : CallsOK PP F_spec_l21Copy [.agg (rPuz x)] [.agg (rPuz x)] := by
  obtain ⟨h1, h2, h3⟩ := h
  refine S_spec_l21Copy rfl (Nat.le_of_ble_eq_true rfl) ?_
  have h4 := h3.1
  simp only [rPuz]
  repeat' (first|refine goAc (l21Clues_ok x.clues h2) rfl rfl rfl rfl ?_|refine goAa rfl rfl (by decide) (by simp <;> omega) (by simp <;> omega) rfl ?_|refine goAf [11] rfl ?_|refine goM rfl ?_|refine goR rfl ?_|refine goX rfl ?_|refine goY rfl ?_|refine goA rfl ?_|refine any_run ?_|refine any_nil (by kernel_rfl) rfl ?_)
  (first|refine run_ret rfl ?_|refine run_done rfl ?_)
  rfl
theorem l30Copy_ok (x : Iss) (h : smIssue x) : CallsOK PP F_spec_l30Copy [.agg (rIss x)] [.agg (rIss x)] := by
  refine S_spec_l30Copy rfl (Nat.le_of_ble_eq_true rfl) ?_
  have hp := l21Copy_ok x.puz h
  simp only [rPuz] at hp
  simp only [rIss]
  repeat' (first|refine goM rfl ?_|refine goR rfl ?_|refine goX rfl ?_|refine goY rfl ?_|refine goC (hp) rfl rfl rfl rfl ?_)
  (first|refine run_ret rfl ?_|refine run_done rfl ?_)
  rfl
theorem l31Copy_ok (xs : List Cor) (h : smCorrectionS xs) : CallsOK PP F_spec_l31Copy [.v (dCors xs)] [.own T_impl_Correction 5 56 (xs.map rCor)] := by
  obtain ⟨hlen, hall⟩ := h
  refine S_spec_l31Copy rfl (Nat.le_of_ble_eq_true rfl) ?_
  have key : ∀ k : Nat, k ≤ xs.length → L_spec_l31Copy_0 PP [(0, .v (dCors xs)), (3, .own T_impl_Correction 5 56 ((xs.take k).map rCor)), (4, .v (.int .i64 k))] [.own T_impl_Correction 5 56 (xs.map rCor)] := up xs.length (fun k ih hk0 => ?_)
  · repeat' (first|refine goM rfl ?_|refine goR rfl ?_|refine goX rfl ?_|refine goY rfl ?_)
    refine run_loopF rfl ?_
    exact key 0 (Nat.zero_le _)
  · repeat' (first|refine goM rfl ?_|refine goR rfl ?_|refine goX rfl ?_|refine goY rfl ?_)
    rw [List.length_map]
    refine run_cnd_lt rfl (fun hk => ?_) (fun hk => ?_)
    · have ih := ih hk
      rw [map_take_succ _ _ hk] at ih
      have hc := l18Copy_ok xs[k].clue (hall _ (List.getElem_mem hk))
      simp only [rClu] at hc
      repeat' (first|refine mid_idxm rfl rfl hk rfl ?_|refine mid_app rfl rfl rfl (by decide) rfl (by simp; omega) (by simp; omega) ?_|refine goM rfl ?_|refine goR rfl ?_|refine goX rfl ?_|refine goY rfl ?_|refine goC (hc) rfl rfl rfl rfl ?_)
      refine run_backF rfl ?_
      rw [wsucc (by omega)]
      exact ih (by omega)
    · repeat' (first|refine goM rfl ?_|refine goR rfl ?_|refine goX rfl ?_|refine goY rfl ?_)
      (first|refine run_ret rfl ?_|refine run_done rfl ?_)
      rw [List.take_of_length_le (by omega)]
abbrev wHou (h : Hou) (v : Value) : List DV := [dLiss h.list, dMeas h.dict, dI h.desk.grid.rows, dI h.desk.grid.cols, dS h.desk.grid.cells, dS h.desk.fill, dClus h.desk.clues, dI h.desk.ver, .val v, dUses h.uses, dCors h.cors, dEnts h.ents, dI h.now]
theorem l33Copy_dp (h : Hou) (hs : smHouse h) : CallsH PP F_spec_l33Copy [] [⟨T_impl_Issue, 10, 128, h.issues.map rIss⟩] (fun _ => [.agg (rHou h)]) (fun u => [.agg (wHou h (u 0))]) := by
  obtain ⟨h1, h2, h3, ⟨h4, h4'⟩, h5, h6, h7⟩ := hs
  have e1 := h1.1
  have e2 := h2.1
  have e5 := h5.1
  have e7 := h7.1
  have hd := l27Copy_ok h.desk h3
  refine SQ_spec_l33Copy [] [1000] (fun _ => rfl) (fun _ => ⟨Nat.le_of_ble_eq_true rfl, by simp⟩) (by simp) (by simp) (fun u Q hQ => ?_)
  have hend : ∀ (E : Env) (v : Value) (bs : List Nat), resP E [.cella 2] = some [.agg (wHou h v)] → get E 1000 = .heap true v bs T_impl_Issue 10 128 (h.issues.map rIss) → Q E := fun E v bs h1 h2 => hQ E ⟨(fun _ => v, fun _ => bs), h1, by simp, h2, trivial⟩
  clear hQ
  simp only [rHou]
  simp only [rDra] at hd
  repeat' (first|refine goAa rfl rfl (by decide) (by simp <;> omega) (by simp <;> omega) rfl ?_|refine goAc hd rfl rfl rfl rfl ?_|refine goAc (l31Copy_ok h.cors h6) rfl rfl rfl rfl ?_|refine goBz [8, 12, 19, 26] rfl rfl rfl rfl ?_|refine goM rfl ?_|refine goR rfl ?_|refine goX rfl ?_|refine goY rfl ?_|refine goA rfl ?_|refine any_run ?_|refine any_nil (by kernel_rfl) rfl ?_)
  refine run_nil 1000 T_impl_Issue 10 128 rfl ?_
  have key : ∀ k : Nat, ∀ (v : Value) (bs : List Nat), k ≤ h.issues.length → L_spec_l33Copy_0 PP Q [(1, .box (rHou h)), (2, .box [.sl 4 [], .sl 2 [], .int .i64 0, .int .i64 0, .str [], .str [], .sl 2 [], .int .i64 0, .sl 10 [], .sl 2 [], .sl 5 [], .sl 4 [], .int .i64 0]),
      (3, .box [dLiss h.list, dMeas h.dict, dI h.desk.grid.rows, dI h.desk.grid.cols, dS h.desk.grid.cells, dS h.desk.fill, dClus h.desk.clues, dI h.desk.ver, .val v, dUses h.uses, dCors h.cors, dEnts h.ents, dI h.now]), (4, .v (.int .i64 k)),
      (1000, .heap true v bs T_impl_Issue 10 128 ((h.issues.take k).map rIss)), (1001, .undef), (1002, .undef), (1003, .undef), (1004, .undef), (1005, .undef), (1006, .undef), (1007, .undef), (1008, .undef), (1009, .undef)] := up h.issues.length (fun k ih v bs hk0 => ?_)
  · refine run_loopF rfl ?_
    exact key 0 _ [] (Nat.zero_le _)
  · simp only [rHou] at ih ⊢
    repeat' (first|refine goM rfl ?_|refine goR rfl ?_|refine goX rfl ?_|refine goY rfl ?_)
    rw [List.length_map]
    refine run_cnd_lt rfl (fun hk => ?_) (fun hk => ?_)
    · have ih := ih hk
      rw [map_take_succ _ _ hk] at ih
      have hi := l30Copy_ok h.issues[k] (h4' _ (List.getElem_mem hk))
      simp only [rIss] at hi
      repeat' (first|refine goFxm rfl rfl hk rfl ?_|refine goSc hi rfl rfl rfl rfl rfl rfl rfl rfl ?_|refine mix_run rfl ?_|refine goF rfl ?_|refine mixF_nil rfl rfl rfl rfl ?_|refine goS rfl rfl rfl rfl rfl rfl rfl ?_|refine goR rfl ?_)
      refine mixP_appH (m := 1000) rfl rfl rfl rfl rfl rfl rfl (by decide) (by simp; omega) (by simp; omega) rfl rfl (fun v' bs' => ?_)
      repeat' (first|refine goS rfl rfl rfl rfl rfl rfl rfl ?_|refine mixP_nil rfl rfl ?_|refine goM rfl ?_|refine goR rfl ?_|refine goX rfl ?_|refine goY rfl ?_)
      refine run_backF rfl ?_
      rw [wsucc (by omega)]
      exact ih v' bs' (by omega)
    · rw [List.take_of_length_le (by omega)]
      repeat' (first|refine goM rfl ?_|refine goR rfl ?_|refine goX rfl ?_|refine goY rfl ?_)
      exact .ret (hend _ v bs rfl rfl)
theorem fz_riss (l : List Iss) : frzRows (l.map rIss) = l.map rIss := frz_map (fun _ => rfl) l
theorem fz_rclu (l : List Clu) : frzRows (l.map rClu) = l.map rClu := frz_map (fun _ => rfl) l
theorem frH {hout : List HT} {v : Nat → Value} (i : Nat) {e sz bys : Nat} {es es' : List (List DV)} (h : hout[i]? = some ⟨e, sz, bys, es⟩) (hf : frzRows es = es') : FrD hout v (.val (v i)) (.sl sz es') := .heap h hf
theorem l33Copy_ok (h : Hou) (hs : smHouse h) : CallsOK PP F_spec_l33Copy [.agg (rHou h)] [.agg (rHou h)] := by
  exact callsOK_frz (l33Copy_dp h hs) (fun v => ⟨.agg ⟨.same _, .same _, .same _, .same _, .same _, .same _, .same _, .same _, frH 0 rfl (fz_riss _), .same _, .same _, .same _, .same _, trivial⟩, trivial⟩)
theorem toClue_ok (x : Clu) (h : smClue x) : CallsOK PP F_laws_toClue [.agg (rClu x)] [.agg (rClu x)] :=
  callsOK_frz (toClue_dp x h) (fun v => ⟨.agg ⟨.same _, frH 0 rfl (fz_stp _), trivial⟩, trivial⟩)
theorem toHouse_ok (h : Hou) (hs : smHouse h) : CallsOK PP F_laws_toHouse [.agg (rHou h)] [.agg (rHou h)] :=
  callsOK_frz (toHouse_dp h hs) (fun v => ⟨.agg ⟨frH 0 rfl (fz_lis _), frH 1 rfl (fz_mea _), .same _, .same _, .same _, .same _, frH 2 rfl (fz_clu _), .same _, frH 3 rfl (fz_iss _), frH 4 rfl (fz_use _), frH 5 rfl (fz_cor _), frH 6 rfl (fz_ent _), .same _, trivial⟩, trivial⟩)
end Go.Rd

namespace Go.Rd
abbrev cv (c : UInt8) : Int := (c.toNat : Int)
def inR (n a b : Int) : Bool := decide (a ≤ n) && decide (n ≤ b)
def isL (c : UInt8) : Bool := decide (97 ≤ cv c) && decide (cv c ≤ 122)
def isWord (s : Str) : Bool := inR s.length 1 8 && s.all isL
def isCell (c : UInt8) : Bool := cv c == 35 || cv c == 46
def isGrid (g : Grd) : Bool := inR g.rows 2 6 && inR g.cols 2 6 && ((g.cells.length : Int) == g.rows * g.cols) && g.cells.all isCell
def Grd.C (g : Grd) : Nat := g.cols.toNat
def Grd.R (g : Grd) : Nat := g.rows.toNat
def Grd.at (g : Grd) (i : Nat) : UInt8 := g.cells.getD i 0
def Grd.white (g : Grd) (i : Nat) : Bool := cv (g.at i) == 46
def countW (g : Grd) (step : Nat) : Nat → Nat → Nat
  | 0, _ => 0
  | f + 1, i => if g.white i then countW g step f (i + step) + 1 else 0
def runN (g : Grd) (i : Nat) (down : Bool) : Nat :=
  let step := if down then g.C else 1
  let place := if down then i / g.C else i % g.C
  let most := if down then g.R else g.C
  if !g.white i || (decide (0 < place) && g.white (i - step)) then 0 else countW g step (most - place) i
def slotsGo (g : Grd) : Nat → Nat → Nat → List Slt
  | 0, _, _ => []
  | f + 1, i, n =>
    let a := runN g i false
    let d := runN g i true
    let n' := if decide (2 ≤ a) || decide (2 ≤ d) then n + 1 else n
    (if 2 ≤ a then [⟨n', false, i, a⟩] else []) ++ ((if 2 ≤ d then [⟨n', true, i, d⟩] else []) ++ slotsGo g f (i + 1) n')
def slotsOf (g : Grd) : List Slt := if isGrid g then slotsGo g g.cells.length 0 0 else []
def cellsOf (g : Grd) (s : Slt) : List Int := (List.range s.len.toNat).map fun (k : Nat) => s.cell + k * (if s.down then g.cols else 1)
def layout (g : Grd) : List (List Int) := (slotsOf g).map (cellsOf g)
def slotsAtGo (cell : Int) : List (List Int) → Nat → List Int
  | [], _ => []
  | l :: ls, i => (if l.contains cell then [(i : Int)] else []) ++ slotsAtGo cell ls (i + 1)
def slotsAt (g : Grd) (cell : Int) : List Int := slotsAtGo cell (layout g) 0
def isChecked (g : Grd) (cell : Int) : Bool := (slotsAt g cell).length == 2
def uncheckedIn (g : Grd) (slot : Nat) : Nat := (((layout g).getD slot []).filter fun c => !isChecked g c).length
def isFill (g : Grd) (f : Str) : Bool := isGrid g && (f.length == g.cells.length) && (f.zip g.cells).all fun p => (cv p.2 == 35 && cv p.1 == 35) || (cv p.2 == 46 && (cv p.1 == 63 || isL p.1))
end Go.Rd

namespace Go.Rd
open Go.Proofs
set_option linter.unusedSimpArgs false
set_option linter.unusedVariables false
set_option maxRecDepth 10000
theorem l1In_ok (n a b : Int) : CallsOK PP F_spec_l1In [.v (.int .i64 n), .v (.int .i64 a), .v (.int .i64 b)] [.v (.bool (inR n a b))] := by
  refine S_spec_l1In rfl (Nat.le_of_ble_eq_true rfl) ?_
  repeat' (first|refine goM rfl ?_|refine goR rfl ?_|refine goX rfl ?_|refine goY rfl ?_)
  (first | refine mid_gdT rfl rfl (fun hb => ?_) (fun hb => ?_) | refine mid_gdF rfl rfl (fun hb => ?_) (fun hb => ?_) | refine run_cnd rfl (fun hb => ?_) (fun hb => ?_)) <;> try rw [hb]
  all_goals repeat' (first | refine goM rfl ?_ | refine goY rfl ?_)
  all_goals (first|refine run_ret rfl ?_|refine run_done rfl ?_)
  all_goals simp [inR, hb]
theorem InRange_ok (n a b : Int) : CallsOK PP F_impl_InRange [.v (.int .i64 n), .v (.int .i64 a), .v (.int .i64 b)] [.v (.bool (inR n a b))] := by
  refine S_impl_InRange rfl (Nat.le_of_ble_eq_true rfl) ?_
  repeat' (first|refine goM rfl ?_|refine goR rfl ?_|refine goX rfl ?_|refine goY rfl ?_)
  (first | refine mid_gdT rfl rfl (fun hb => ?_) (fun hb => ?_) | refine mid_gdF rfl rfl (fun hb => ?_) (fun hb => ?_) | refine run_cnd rfl (fun hb => ?_) (fun hb => ?_)) <;> try rw [hb]
  all_goals repeat' (first | refine goM rfl ?_ | refine goY rfl ?_)
  all_goals (first|refine run_ret rfl ?_|refine run_done rfl ?_)
  all_goals simp [inR, hb]
theorem at_ok (i n : Int) : CallsOK PP F_impl_at [.v (.int .i64 i), .v (.int .i64 n)] [.v (.bool (decide (0 ≤ i) && decide (i < n)))] := by
  refine S_impl_at rfl (Nat.le_of_ble_eq_true rfl) ?_
  repeat' (first|refine goM rfl ?_|refine goR rfl ?_|refine goX rfl ?_|refine goY rfl ?_)
  (first | refine mid_gdT rfl rfl (fun hb => ?_) (fun hb => ?_) | refine mid_gdF rfl rfl (fun hb => ?_) (fun hb => ?_) | refine run_cnd rfl (fun hb => ?_) (fun hb => ?_)) <;> try rw [hb]
  all_goals repeat' (first | refine goM rfl ?_ | refine goY rfl ?_)
  all_goals (first|refine run_ret rfl ?_|refine run_done rfl ?_)
  all_goals simp [hb]
theorem isLetter_ok (c : Int) : CallsOK PP F_impl_isLetter [.v (.int .u8 c)] [.v (.bool (decide (97 ≤ c) && decide (c ≤ 122)))] := by
  refine S_impl_isLetter rfl (Nat.le_of_ble_eq_true rfl) ?_
  repeat' (first|refine goM rfl ?_|refine goR rfl ?_|refine goX rfl ?_|refine goY rfl ?_)
  (first | refine mid_gdT rfl rfl (fun hb => ?_) (fun hb => ?_) | refine mid_gdF rfl rfl (fun hb => ?_) (fun hb => ?_) | refine run_cnd rfl (fun hb => ?_) (fun hb => ?_)) <;> try rw [hb]
  all_goals repeat' (first | refine goM rfl ?_ | refine goY rfl ?_)
  all_goals (first|refine run_ret rfl ?_|refine run_done rfl ?_)
  all_goals simp [hb]
theorem all_drop {α : Type} (p : α → Bool) (l : List α) {k : Nat} (h : k < l.length) : (l.drop k).all p = (p l[k] && (l.drop (k + 1)).all p) := by
  rw [List.drop_eq_getElem_cons h, List.all_cons]
theorem all_drop_nil {α : Type} (p : α → Bool) (l : List α) {k : Nat} (h : ¬ k < l.length) : (l.drop k).all p = true := by
  rw [List.drop_eq_nil_of_le (by omega)]; rfl
theorem IsWord_ok (s : Str) : CallsOK PP F_impl_IsWord [.v (.str s)] [.v (.bool (isWord s))] := by
  refine S_impl_IsWord rfl (Nat.le_of_ble_eq_true rfl) ?_
  repeat' (first|refine goM rfl ?_|refine goR rfl ?_|refine goX rfl ?_|refine goY rfl ?_|refine goC (InRange_ok _ _ _) rfl rfl rfl rfl ?_)
  (first | refine mid_gdT rfl rfl (fun hb => ?_) (fun hb => ?_) | refine mid_gdF rfl rfl (fun hb => ?_) (fun hb => ?_) | refine run_cnd rfl (fun hb => ?_) (fun hb => ?_)) <;> try rw [hb]
  · repeat' (first|refine goM rfl ?_|refine goR rfl ?_|refine goX rfl ?_|refine goY rfl ?_)
    (first|refine run_ret rfl ?_|refine run_done rfl ?_)
    simp only [Bool.not_eq_true'] at hb
    simp [isWord, hb]
  · simp only [Bool.not_eq_false'] at hb
    have hl : s.length ≤ 8 := by simp [inR] at hb; omega
    have key : ∀ k : Nat, L_impl_IsWord_0 PP [(0, .v (.str s)), (9, .v (.int .i64 s.length)), (10, .v (.int .i64 k))] [.v (.bool ((s.drop k).all isL))] := up s.length (fun k ih => ?_)
    · repeat' (first|refine goM rfl ?_|refine goR rfl ?_|refine goX rfl ?_|refine goY rfl ?_)
      refine run_loopF rfl ?_
      have e : isWord s = s.all isL := by simp only [isWord, hb, Bool.true_and]
      rw [e]
      exact key 0
    · repeat' (first|refine goM rfl ?_|refine goR rfl ?_|refine goX rfl ?_|refine goY rfl ?_)
      refine run_cnd_lt rfl (fun hk => ?_) (fun hk => ?_)
      · repeat' (first|refine mid_sidxs rfl rfl hk rfl ?_|refine goM rfl ?_|refine goR rfl ?_|refine goX rfl ?_|refine goY rfl ?_|refine goC (isLetter_ok _) rfl rfl rfl rfl ?_)
        rw [all_drop isL s hk]
        (first | refine mid_gdT rfl rfl (fun hb => ?_) (fun hb => ?_) | refine mid_gdF rfl rfl (fun hb => ?_) (fun hb => ?_) | refine run_cnd rfl (fun hb => ?_) (fun hb => ?_)) <;> try rw [hb]
        · repeat' (first|refine goM rfl ?_|refine goR rfl ?_|refine goX rfl ?_|refine goY rfl ?_)
          (first|refine run_ret rfl ?_|refine run_done rfl ?_)
          simp only [Bool.not_eq_true'] at hb
          rw [show isL s[k] = false from hb]; rfl
        · repeat' (first|refine goM rfl ?_|refine goR rfl ?_|refine goX rfl ?_|refine goY rfl ?_)
          refine run_backF rfl ?_
          rw [wsucc (by omega)]
          simp only [Bool.not_eq_false'] at hb
          rw [show isL s[k] = true from hb, Bool.true_and]
          exact ih hk
      · repeat' (first|refine goM rfl ?_|refine goR rfl ?_|refine goX rfl ?_|refine goY rfl ?_)
        (first|refine run_ret rfl ?_|refine run_done rfl ?_)
        rw [all_drop_nil isL s hk]
theorem IsWord_ok' (s : Str) : CallsOK PP F_spec_IsWord [.v (.str s)] [.v (.bool (isWord s))] := by
  refine S_spec_IsWord rfl (Nat.le_of_ble_eq_true rfl) ?_
  repeat' (first|refine goM rfl ?_|refine goR rfl ?_|refine goX rfl ?_|refine goY rfl ?_|refine goC (l1In_ok _ _ _) rfl rfl rfl rfl ?_)
  (first | refine mid_gdT rfl rfl (fun hb => ?_) (fun hb => ?_) | refine mid_gdF rfl rfl (fun hb => ?_) (fun hb => ?_) | refine run_cnd rfl (fun hb => ?_) (fun hb => ?_)) <;> try rw [hb]
  · repeat' (first|refine goM rfl ?_|refine goR rfl ?_|refine goX rfl ?_|refine goY rfl ?_)
    (first|refine run_ret rfl ?_|refine run_done rfl ?_)
    simp only [Bool.not_eq_true'] at hb
    simp [isWord, hb]
  · simp only [Bool.not_eq_false'] at hb
    have hl : s.length ≤ 8 := by simp [inR] at hb; omega
    have key : ∀ k : Nat, L_spec_IsWord_0 PP [(0, .v (.str s)), (3, .v (.int .i64 k))] [.v (.bool ((s.drop k).all isL))] := up s.length (fun k ih => ?_)
    · repeat' (first|refine goM rfl ?_|refine goR rfl ?_|refine goX rfl ?_|refine goY rfl ?_)
      refine run_loopF rfl ?_
      have e : isWord s = s.all isL := by simp only [isWord, hb, Bool.true_and]
      rw [e]
      exact key 0
    · repeat' (first|refine goM rfl ?_|refine goR rfl ?_|refine goX rfl ?_|refine goY rfl ?_)
      refine run_cnd_lt rfl (fun hk => ?_) (fun hk => ?_)
      · rw [all_drop isL s hk]
        repeat' (first|refine mid_sidxs rfl rfl hk rfl ?_|refine goM rfl ?_|refine goR rfl ?_|refine goX rfl ?_)
        (first | refine mid_gdT rfl rfl (fun hb => ?_) (fun hb => ?_) | refine mid_gdF rfl rfl (fun hb => ?_) (fun hb => ?_) | refine run_cnd rfl (fun hb => ?_) (fun hb => ?_)) <;> try rw [hb]
        · repeat' (first|refine goM rfl ?_|refine goR rfl ?_|refine goX rfl ?_|refine goY rfl ?_)
          (first|refine run_ret rfl ?_|refine run_done rfl ?_)
          have : isL s[k] = false := by simp only [isL, cv, Bool.and_eq_false_iff, decide_eq_false_iff_not, decide_eq_true_eq] at hb ⊢; omega
          rw [this]; rfl
        · repeat' (first|refine mid_sidxs rfl rfl hk rfl ?_|refine goM rfl ?_|refine goY rfl ?_)
          simp only [decide_eq_false_iff_not] at hb
          refine run_cnd rfl (fun hc => ?_) (fun hc => ?_)
          · repeat' (first|refine goM rfl ?_|refine goR rfl ?_|refine goX rfl ?_|refine goY rfl ?_)
            (first|refine run_ret rfl ?_|refine run_done rfl ?_)
            have : isL s[k] = false := by simp only [isL, cv, Bool.and_eq_false_iff, decide_eq_false_iff_not, decide_eq_true_eq] at hc ⊢; omega
            rw [this]; rfl
          · repeat' (first|refine goM rfl ?_|refine goR rfl ?_|refine goX rfl ?_|refine goY rfl ?_)
            refine run_backF rfl ?_
            rw [wsucc (by omega)]
            have : isL s[k] = true := by simp only [isL, cv, Bool.and_eq_true, decide_eq_false_iff_not, decide_eq_true_eq] at hc hb ⊢; omega
            rw [this, Bool.true_and]
            exact ih hk
      · repeat' (first|refine goM rfl ?_|refine goR rfl ?_|refine goX rfl ?_|refine goY rfl ?_)
        (first|refine run_ret rfl ?_|refine run_done rfl ?_)
        rw [all_drop_nil isL s hk]
end Go.Rd

namespace Go.Rd
open Go.Proofs
set_option linter.unusedSimpArgs false
set_option linter.unusedVariables false
set_option maxRecDepth 10000
theorem grid_nat {g : Grd} (h : isGrid g = true) : ∃ R C : Nat, g.rows = R ∧ g.cols = C ∧ g.R = R ∧ g.C = C ∧ 2 ≤ R ∧ R ≤ 6 ∧ 2 ≤ C ∧ C ≤ 6 ∧ g.cells.length = R * C ∧ g.cells.length ≤ 36 := by
  simp only [isGrid, inR, Bool.and_eq_true, decide_eq_true_eq, beq_iff_eq] at h
  obtain ⟨⟨⟨⟨h1, h2⟩, h3, h4⟩, h5⟩, _⟩ := h
  obtain ⟨R, hR⟩ := Int.eq_ofNat_of_zero_le (show 0 ≤ g.rows by omega)
  obtain ⟨C, hC⟩ := Int.eq_ofNat_of_zero_le (show 0 ≤ g.cols by omega)
  have h6 : g.cells.length = R * C := by
    have : (g.cells.length : Int) = ((R * C : Nat) : Int) := by rw [h5, hR, hC, Int.natCast_mul]
    omega
  refine ⟨R, C, hR, hC, by simp [Grd.R, hR], by simp [Grd.C, hC], by omega, by omega, by omega, by omega, h6, ?_⟩
  rw [h6]
  have : R * C ≤ 6 * 6 := Nat.mul_le_mul (by omega) (by omega)
  omega
theorem wmul {a b : Int} (ha : 2 ≤ a ∧ a ≤ 6) (hb : 2 ≤ b ∧ b ≤ 6) : IntKind.i64.wrap (a * b) = a * b := by
  have h1 : a = 2 ∨ a = 3 ∨ a = 4 ∨ a = 5 ∨ a = 6 := by omega
  rcases h1 with rfl | rfl | rfl | rfl | rfl <;> exact w64 (by omega) (by omega)
theorem IsGrid_ok' (g : Grd) (hg : g.cells.length ≤ 1048576) : CallsOK PP F_spec_IsGrid [.agg (rGrd g)] [.v (.bool (isGrid g))] := by
  refine S_spec_IsGrid rfl (Nat.le_of_ble_eq_true rfl) ?_
  repeat' (first|refine goM rfl ?_|refine goR rfl ?_|refine goX rfl ?_|refine goY rfl ?_|refine goC (l1In_ok _ _ _) rfl rfl rfl rfl ?_)
  (first | refine mid_gdT rfl rfl (fun h1 => ?_) (fun h1 => ?_) | refine mid_gdF rfl rfl (fun h1 => ?_) (fun h1 => ?_) | refine run_cnd rfl (fun h1 => ?_) (fun h1 => ?_)) <;> try rw [h1]
  · repeat' (first|refine goM rfl ?_|refine goR rfl ?_|refine goX rfl ?_|refine goY rfl ?_)
    (first|refine run_ret rfl ?_|refine run_done rfl ?_)
    simp only [Bool.not_eq_true'] at h1
    simp [isGrid, h1]
  · repeat' (first|refine goM rfl ?_|refine goC (l1In_ok _ _ _) rfl rfl rfl rfl ?_)
    (first | refine mid_gdT rfl rfl (fun h2 => ?_) (fun h2 => ?_) | refine mid_gdF rfl rfl (fun h2 => ?_) (fun h2 => ?_) | refine run_cnd rfl (fun h2 => ?_) (fun h2 => ?_)) <;> try rw [h2]
    · repeat' (first|refine goM rfl ?_|refine goR rfl ?_|refine goX rfl ?_|refine goY rfl ?_)
      (first|refine run_ret rfl ?_|refine run_done rfl ?_)
      simp only [Bool.not_eq_true', Bool.not_eq_false'] at h1 h2
      simp [isGrid, h1, h2]
    · repeat' (first|refine goM rfl ?_|refine goY rfl ?_)
      simp only [Bool.not_eq_false'] at h1 h2
      have hw : IntKind.i64.wrap (g.rows * g.cols) = g.rows * g.cols := by
        simp only [inR, Bool.and_eq_true, decide_eq_true_eq] at h1 h2
        exact wmul h1 h2
      have e : isGrid g = (((g.cells.length : Int) == g.rows * g.cols) && g.cells.all isCell) := by simp only [isGrid, h1, h2, Bool.true_and]
      rw [e]
      simp only [rGrd, dI, hw]
      (first | refine mid_gdT rfl rfl (fun h3 => ?_) (fun h3 => ?_) | refine mid_gdF rfl rfl (fun h3 => ?_) (fun h3 => ?_) | refine run_cnd rfl (fun h3 => ?_) (fun h3 => ?_)) <;> try rw [h3]
      · repeat' (first|refine goM rfl ?_|refine goR rfl ?_|refine goX rfl ?_|refine goY rfl ?_)
        (first|refine run_ret rfl ?_|refine run_done rfl ?_)
        simp only [bne_iff_ne, ne_eq] at h3
        rw [show ((g.cells.length : Int) == g.rows * g.cols) = false by simpa using h3]; rfl
      · repeat' (first|refine goM rfl ?_|refine goR rfl ?_|refine goX rfl ?_|refine goY rfl ?_)
        have key : ∀ k : Nat, L_spec_IsGrid_0 PP [(1, .box (rGrd g)), (3, .v (.int .i64 k))] [.v (.bool ((g.cells.drop k).all isCell))] := up g.cells.length (fun k ih => ?_)
        · refine run_loopF rfl ?_
          rw [show ((g.cells.length : Int) == g.rows * g.cols) = true by simpa using h3, Bool.true_and]
          exact key 0
        · repeat' (first|refine goM rfl ?_|refine goR rfl ?_|refine goX rfl ?_|refine goY rfl ?_)
          refine run_cnd_lt rfl (fun hk => ?_) (fun hk => ?_)
          · rw [all_drop isCell _ hk]
            repeat' (first|refine mid_sidxs rfl rfl hk rfl ?_|refine goM rfl ?_|refine goR rfl ?_|refine goX rfl ?_)
            (first | refine mid_gdT rfl rfl (fun h4 => ?_) (fun h4 => ?_) | refine mid_gdF rfl rfl (fun h4 => ?_) (fun h4 => ?_) | refine run_cnd rfl (fun h4 => ?_) (fun h4 => ?_)) <;> try rw [h4]
            · repeat' (first|refine mid_sidxs rfl rfl hk rfl ?_|refine goM rfl ?_|refine goY rfl ?_)
              (first | refine mid_gdT rfl rfl (fun h5 => ?_) (fun h5 => ?_) | refine mid_gdF rfl rfl (fun h5 => ?_) (fun h5 => ?_) | refine run_cnd rfl (fun h5 => ?_) (fun h5 => ?_)) <;> try rw [h5]
              · repeat' (first|refine goM rfl ?_|refine goR rfl ?_|refine goX rfl ?_|refine goY rfl ?_)
                (first|refine run_ret rfl ?_|refine run_done rfl ?_)
                simp only [bne_iff_ne, ne_eq] at h4 h5
                rw [show isCell g.cells[k] = false by simp [isCell, h4, h5]]; rfl
              · repeat' (first|refine goM rfl ?_|refine goR rfl ?_|refine goX rfl ?_|refine goY rfl ?_)
                refine run_backF rfl ?_
                rw [wsucc (by omega)]
                rw [show isCell g.cells[k] = true by simp [isCell]; simp at h5; simp [h5], Bool.true_and]
                exact ih hk
            · repeat' (first|refine goM rfl ?_|refine goR rfl ?_|refine goX rfl ?_|refine goY rfl ?_)
              refine run_backF rfl ?_
              rw [wsucc (by omega)]
              rw [show isCell g.cells[k] = true by simp [isCell]; simp at h4; simp [h4], Bool.true_and]
              exact ih hk
          · repeat' (first|refine goM rfl ?_|refine goR rfl ?_|refine goX rfl ?_|refine goY rfl ?_)
            (first|refine run_ret rfl ?_|refine run_done rfl ?_)
            rw [all_drop_nil isCell _ hk]
theorem IsGrid_ok (g : Grd) (hg : g.cells.length ≤ 1048576) : CallsOK PP F_impl_IsGrid [.agg (rGrd g)] [.v (.bool (isGrid g))] := by
  refine S_impl_IsGrid rfl (Nat.le_of_ble_eq_true rfl) ?_
  repeat' (first|refine goM rfl ?_|refine goR rfl ?_|refine goX rfl ?_|refine goY rfl ?_|refine goC (InRange_ok _ _ _) rfl rfl rfl rfl ?_)
  (first | refine mid_gdT rfl rfl (fun h1 => ?_) (fun h1 => ?_) | refine mid_gdF rfl rfl (fun h1 => ?_) (fun h1 => ?_) | refine run_cnd rfl (fun h1 => ?_) (fun h1 => ?_)) <;> try rw [h1]
  · repeat' (first|refine goM rfl ?_|refine goR rfl ?_|refine goX rfl ?_|refine goY rfl ?_)
    (first|refine run_ret rfl ?_|refine run_done rfl ?_)
    simp only [Bool.not_eq_true'] at h1
    simp [isGrid, h1]
  · repeat' (first|refine goM rfl ?_|refine goC (InRange_ok _ _ _) rfl rfl rfl rfl ?_)
    (first | refine mid_gdT rfl rfl (fun h2 => ?_) (fun h2 => ?_) | refine mid_gdF rfl rfl (fun h2 => ?_) (fun h2 => ?_) | refine run_cnd rfl (fun h2 => ?_) (fun h2 => ?_)) <;> try rw [h2]
    · repeat' (first|refine goM rfl ?_|refine goR rfl ?_|refine goX rfl ?_|refine goY rfl ?_)
      (first|refine run_ret rfl ?_|refine run_done rfl ?_)
      simp only [Bool.not_eq_true', Bool.not_eq_false'] at h1 h2
      simp [isGrid, h1, h2]
    · repeat' (first|refine goM rfl ?_|refine goY rfl ?_)
      simp only [Bool.not_eq_false'] at h1 h2
      have hw : IntKind.i64.wrap (g.rows * g.cols) = g.rows * g.cols := by
        simp only [inR, Bool.and_eq_true, decide_eq_true_eq] at h1 h2
        exact wmul h1 h2
      have e : isGrid g = (((g.cells.length : Int) == g.rows * g.cols) && g.cells.all isCell) := by simp only [isGrid, h1, h2, Bool.true_and]
      rw [e]
      simp only [rGrd, dI, hw]
      (first | refine mid_gdT rfl rfl (fun h3 => ?_) (fun h3 => ?_) | refine mid_gdF rfl rfl (fun h3 => ?_) (fun h3 => ?_) | refine run_cnd rfl (fun h3 => ?_) (fun h3 => ?_)) <;> try rw [h3]
      · repeat' (first|refine goM rfl ?_|refine goR rfl ?_|refine goX rfl ?_|refine goY rfl ?_)
        (first|refine run_ret rfl ?_|refine run_done rfl ?_)
        simp only [bne_iff_ne, ne_eq] at h3
        rw [show ((g.cells.length : Int) == g.rows * g.cols) = false by simpa using h3]; rfl
      · repeat' (first|refine goM rfl ?_|refine goR rfl ?_|refine goX rfl ?_|refine goY rfl ?_)
        have key : ∀ k : Nat, L_impl_IsGrid_0 PP [(1, .box (rGrd g)), (27, .v (.int .i64 g.cells.length)), (28, .v (.int .i64 k))] [.v (.bool ((g.cells.drop k).all isCell))] := up g.cells.length (fun k ih => ?_)
        · refine run_loopF rfl ?_
          rw [show ((g.cells.length : Int) == g.rows * g.cols) = true by simpa using h3, Bool.true_and]
          exact key 0
        · repeat' (first|refine goM rfl ?_|refine goR rfl ?_|refine goX rfl ?_|refine goY rfl ?_)
          refine run_cnd_lt rfl (fun hk => ?_) (fun hk => ?_)
          · rw [all_drop isCell _ hk]
            repeat' (first|refine mid_sidxs rfl rfl hk rfl ?_|refine goM rfl ?_|refine goR rfl ?_|refine goX rfl ?_|refine goY rfl ?_)
            (first | refine mid_gdT rfl rfl (fun h4 => ?_) (fun h4 => ?_) | refine mid_gdF rfl rfl (fun h4 => ?_) (fun h4 => ?_) | refine run_cnd rfl (fun h4 => ?_) (fun h4 => ?_)) <;> try rw [h4]
            · repeat' (first|refine mid_sidxs rfl rfl hk rfl ?_|refine goM rfl ?_|refine goY rfl ?_)
              (first | refine mid_gdT rfl rfl (fun h5 => ?_) (fun h5 => ?_) | refine mid_gdF rfl rfl (fun h5 => ?_) (fun h5 => ?_) | refine run_cnd rfl (fun h5 => ?_) (fun h5 => ?_)) <;> try rw [h5]
              · repeat' (first|refine goM rfl ?_|refine goR rfl ?_|refine goX rfl ?_|refine goY rfl ?_)
                (first|refine run_ret rfl ?_|refine run_done rfl ?_)
                simp only [bne_iff_ne, ne_eq] at h4 h5
                rw [show isCell g.cells[k] = false by simp [isCell, h4, h5]]; rfl
              · repeat' (first|refine goM rfl ?_|refine goR rfl ?_|refine goX rfl ?_|refine goY rfl ?_)
                refine run_backF rfl ?_
                rw [wsucc (by omega)]
                rw [show isCell g.cells[k] = true by simp [isCell]; simp at h5; simp [h5], Bool.true_and]
                exact ih hk
            · repeat' (first|refine goM rfl ?_|refine goR rfl ?_|refine goX rfl ?_|refine goY rfl ?_)
              refine run_backF rfl ?_
              rw [wsucc (by omega)]
              rw [show isCell g.cells[k] = true by simp [isCell]; simp at h4; simp [h4], Bool.true_and]
              exact ih hk
          · repeat' (first|refine goM rfl ?_|refine goR rfl ?_|refine goX rfl ?_|refine goY rfl ?_)
            (first|refine run_ret rfl ?_|refine run_done rfl ?_)
            rw [all_drop_nil isCell _ hk]
theorem white_at {g : Grd} {i : Nat} (hi : i < g.cells.length) : g.white i = (cv g.cells[i] == 46) := by
  simp [Grd.white, Grd.at, List.getD_eq_getElem?_getD, List.getElem?_eq_getElem hi]
theorem runN_at {g : Grd} {i : Nat} {R C : Nat} (hR : g.R = R) (hC : g.C = C) (d : Bool) :
    runN g i d = if !g.white i || (decide (0 < (if d then i / C else i % C)) && g.white (i - (if d then C else 1))) then 0 else countW g (if d then C else 1) ((if d then R else C) - (if d then i / C else i % C)) i := by
  cases d <;> simp [runN, hR, hC]
theorem l8From_ok (g : Grd) (hg : isGrid g = true) (i : Nat) (hi : i < g.cells.length) (d : Bool) : CallsOK PP F_spec_l8From [.agg (rGrd g), .v (.int .i64 i), .v (.bool d)] [.v (.int .i64 (runN g i d))] := by
  obtain ⟨R, C, hr, hc, hR, hC, r2, r6, c2, c6, hlen, h36⟩ := grid_nat hg
  refine S_spec_l8From rfl (Nat.le_of_ble_eq_true rfl) ?_
  rw [runN_at hR hC]
  have hG : rGrd g = [dI R, dI C, dS g.cells] := by simp only [rGrd, hr, hc]
  rw [hG]
  have key : ∀ (st pl mo : Nat), 1 ≤ st → st ≤ 6 → mo ≤ 6 → pl ≤ 36 → (∀ n, pl + n < mo → i + n * st < g.cells.length) → ∀ n : Nat, n ≤ 6 → L_spec_l8From_0 PP [(1, .v (.int .i64 i)), (3, .box [dI R, dI C, dS g.cells]), (7, .v (.int .i64 st)), (8, .v (.int .i64 pl)), (9, .v (.int .i64 mo)), (10, .v (.int .i64 n))]
      [.v (.int .i64 ((n + countW g st (mo - (pl + n)) (i + n * st) : Nat) : Int))] := by
    intro st pl mo s1 s6 m6 p36 hb
    have : ∀ f n : Nat, n ≤ 6 → mo - (pl + n) = f → L_spec_l8From_0 PP [(1, .v (.int .i64 i)), (3, .box [dI R, dI C, dS g.cells]), (7, .v (.int .i64 st)), (8, .v (.int .i64 pl)), (9, .v (.int .i64 mo)), (10, .v (.int .i64 n))]
        [.v (.int .i64 ((n + countW g st f (i + n * st) : Nat) : Int))] := by
      intro f
      induction f with
      | zero =>
        intro n hn hf
        have e1 : IntKind.i64.wrap ((pl : Int) + n) = ((pl + n : Nat) : Int) := by rw [w64 (by omega) (by omega)]; omega
        repeat' (first|refine goM rfl ?_|refine goR rfl ?_|refine goX rfl ?_)
        rw [e1, show decide (((pl + n : Nat) : Int) < (mo : Int)) = false by simp; omega]
        repeat' (first|refine goM rfl ?_|refine goR rfl ?_|refine goX rfl ?_|refine goY rfl ?_)
        (first|refine run_ret rfl ?_|refine run_done rfl ?_)
        rfl
      | succ f ih =>
        intro n hn hf
        have hlt := hb n (by omega)
        have hns : n * st ≤ 36 := Nat.mul_le_mul hn s6
        have e1 : IntKind.i64.wrap ((pl : Int) + n) = ((pl + n : Nat) : Int) := by rw [w64 (by omega) (by omega)]; omega
        have e2 : IntKind.i64.wrap ((n : Int) * st) = ((n * st : Nat) : Int) := by rw [← Int.natCast_mul, w64 (by omega) (by omega)]
        have e3 : IntKind.i64.wrap ((i : Int) + ((n * st : Nat) : Int)) = ((i + n * st : Nat) : Int) := by rw [w64 (by omega) (by omega)]; omega
        repeat' (first|refine goM rfl ?_|refine goR rfl ?_|refine goX rfl ?_)
        rw [e1, show decide (((pl + n : Nat) : Int) < (mo : Int)) = true by simp; omega]
        repeat' refine goM rfl ?_
        rw [e2, e3]
        repeat' (first|refine mid_sidxs rfl rfl hlt rfl ?_|refine goM rfl ?_|refine goY rfl ?_)
        simp only [countW]
        rw [white_at hlt]
        (first | refine mid_gdT rfl rfl (fun hw => ?_) (fun hw => ?_) | refine mid_gdF rfl rfl (fun hw => ?_) (fun hw => ?_) | refine run_cnd rfl (fun hw => ?_) (fun hw => ?_)) <;> try rw [hw]
        · repeat' (first|refine goM rfl ?_|refine goR rfl ?_|refine goX rfl ?_|refine goY rfl ?_)
          refine run_backF rfl ?_
          rw [wsucc (by omega)]
          simp only [if_true]
          have := ih (n + 1) (by omega) (by omega)
          rw [show i + (n + 1) * st = i + n * st + st by rw [Nat.add_mul]; omega, show n + 1 + countW g st f (i + n * st + st) = n + (countW g st f (i + n * st + st) + 1) by omega] at this
          exact this
        · repeat' (first|refine goM rfl ?_|refine goR rfl ?_|refine goX rfl ?_|refine goY rfl ?_)
          (first|refine run_ret rfl ?_|refine run_done rfl ?_)
          simp
    intro n hn
    exact this _ n hn rfl
  have hmod : i % C < C := Nat.mod_lt _ (by omega)
  have hdiv : i / C < R := Nat.div_lt_of_lt_mul (by rw [Nat.mul_comm]; omega)
  have hdm := Nat.div_add_mod i C
  have hdi : i / C ≤ i := Nat.div_le_self i C
  have eq : IntKind.i64.wrap ((i : Int).tdiv C) = ((i / C : Nat) : Int) := by
    rw [show (i : Int).tdiv C = ((i / C : Nat) : Int) from rfl]
    exact w64 (Int.le_trans (by decide) (Int.natCast_nonneg _)) (Int.lt_of_le_of_lt (Int.ofNat_le.2 (show i / C ≤ 36 by omega)) (by decide))
  cases d with
  | false =>
    have hb : ∀ n, i % C + n < C → i + n * 1 < g.cells.length := by
      intro n hn
      have h1 : C * (i / C) + C ≤ C * R := by have := Nat.mul_le_mul_left C (show i / C + 1 ≤ R from hdiv); rw [Nat.mul_add, Nat.mul_one] at this; exact this
      rw [hlen, Nat.mul_comm R C]; omega
    repeat' (first|refine mid_rem (q := ((i % C : Nat) : Int)) rfl rfl (by omega) rfl rfl ?_|refine mid_sidxs rfl rfl hi rfl ?_|refine goM rfl ?_|refine goR rfl ?_|refine goX rfl ?_|refine goY rfl ?_)
    rw [white_at hi]
    (first | refine mid_gdT rfl rfl (fun hw => ?_) (fun hw => ?_) | refine mid_gdF rfl rfl (fun hw => ?_) (fun hw => ?_) | refine run_cnd rfl (fun hw => ?_) (fun hw => ?_)) <;> try rw [hw]
    · repeat' (first|refine goM rfl ?_|refine goR rfl ?_|refine goX rfl ?_|refine goY rfl ?_)
      (first|refine run_ret rfl ?_|refine run_done rfl ?_)
      simp only [bne_iff_ne, ne_eq] at hw
      rw [show (cv g.cells[i] == 46) = false by simpa using hw]; rfl
    · have hw1 : (cv g.cells[i] == 46) = true := by simpa using hw
      have hw2 : ((g.cells[i].toNat : Int) != 46) = false := hw
      simp only [hw1, Bool.not_true, Bool.false_or]
      repeat' refine goM rfl ?_
      (first | refine mid_gdT rfl rfl (fun hp => ?_) (fun hp => ?_) | refine mid_gdF rfl rfl (fun hp => ?_) (fun hp => ?_) | refine run_cnd rfl (fun hp => ?_) (fun hp => ?_)) <;> try rw [hp]
      · have hp0 : 0 < i % C := Int.ofNat_lt.1 (of_decide_eq_true hp)
        have hge : 1 ≤ i := by have := Nat.mod_le i C; omega
        have e4 : IntKind.i64.wrap ((i : Int) - 1) = ((i - 1 : Nat) : Int) := by rw [w64 (by omega) (by omega)]; omega
        have hlt : i - 1 < g.cells.length := by omega
        repeat' refine goM rfl ?_
        rw [e4]
        repeat' (first|refine mid_sidxs rfl rfl hlt rfl ?_|refine goM rfl ?_|refine goY rfl ?_)
        simp only [hp0, decide_true, Bool.true_and, if_true, if_false, Bool.false_eq_true]
        rw [white_at hlt]
        (first | refine mid_gdT rfl rfl (fun hv => ?_) (fun hv => ?_) | refine mid_gdF rfl rfl (fun hv => ?_) (fun hv => ?_) | refine run_cnd rfl (fun hv => ?_) (fun hv => ?_)) <;> try rw [hv]
        · repeat' (first|refine goM rfl ?_|refine goR rfl ?_|refine goX rfl ?_|refine goY rfl ?_)
          (first|refine run_ret rfl ?_|refine run_done rfl ?_)
          simp [show cv g.cells[i - 1] = 46 by simpa using hv]
        · repeat' (first|refine goM rfl ?_|refine goR rfl ?_|refine goX rfl ?_|refine goY rfl ?_)
          refine run_loopF rfl ?_
          have h1 : (cv g.cells[i - 1] == 46) = false := hv
          simp only [h1, Bool.false_eq_true, if_false]
          have := key 1 (i % C) C (by omega) (by omega) (by omega) (by omega) hb 0 (by omega)
          simp only [Nat.zero_add, Nat.add_zero, Nat.zero_mul] at this
          exact this
      · have hp0 : ¬ 0 < i % C := fun h => absurd (Int.ofNat_lt.2 h) (of_decide_eq_false hp)
        repeat' (first|refine goM rfl ?_|refine goR rfl ?_|refine goX rfl ?_|refine goY rfl ?_)
        refine run_loopF rfl ?_
        simp only [hp0, decide_false, Bool.false_and, if_true, if_false, Bool.false_eq_true]
        have := key 1 (i % C) C (by omega) (by omega) (by omega) (by omega) hb 0 (by omega)
        simp only [Nat.zero_add, Nat.add_zero, Nat.zero_mul] at this
        exact this
  | true =>
    have hb : ∀ n, i / C + n < R → i + n * C < g.cells.length := by
      intro n hn
      have h1 : C * (i / C + n + 1) ≤ C * R := Nat.mul_le_mul_left C (show i / C + n + 1 ≤ R from hn)
      rw [Nat.mul_add, Nat.mul_add, Nat.mul_one] at h1
      rw [hlen, Nat.mul_comm R C, Nat.mul_comm n C]; omega
    repeat' (first|refine mid_rem (q := ((i % C : Nat) : Int)) rfl rfl (by omega) rfl rfl ?_|refine mid_quo (q := ((i / C : Nat) : Int)) rfl rfl (by omega) eq rfl ?_|refine mid_sidxs rfl rfl hi rfl ?_|refine goM rfl ?_|refine goR rfl ?_|refine goX rfl ?_|refine goY rfl ?_)
    rw [white_at hi]
    (first | refine mid_gdT rfl rfl (fun hw => ?_) (fun hw => ?_) | refine mid_gdF rfl rfl (fun hw => ?_) (fun hw => ?_) | refine run_cnd rfl (fun hw => ?_) (fun hw => ?_)) <;> try rw [hw]
    · repeat' (first|refine goM rfl ?_|refine goR rfl ?_|refine goX rfl ?_|refine goY rfl ?_)
      (first|refine run_ret rfl ?_|refine run_done rfl ?_)
      simp only [bne_iff_ne, ne_eq] at hw
      rw [show (cv g.cells[i] == 46) = false by simpa using hw]; rfl
    · have hw1 : (cv g.cells[i] == 46) = true := by simpa using hw
      have hw2 : ((g.cells[i].toNat : Int) != 46) = false := hw
      simp only [hw1, Bool.not_true, Bool.false_or]
      repeat' refine goM rfl ?_
      (first | refine mid_gdT rfl rfl (fun hp => ?_) (fun hp => ?_) | refine mid_gdF rfl rfl (fun hp => ?_) (fun hp => ?_) | refine run_cnd rfl (fun hp => ?_) (fun hp => ?_)) <;> try rw [hp]
      · have hp0 : 0 < i / C := Int.ofNat_lt.1 (of_decide_eq_true hp)
        have hge : C ≤ i := by have := Nat.mul_le_mul_left C (show 1 ≤ i / C from hp0); omega
        have e4 : IntKind.i64.wrap ((i : Int) - C) = ((i - C : Nat) : Int) := by rw [w64 (by omega) (by omega)]; omega
        have hlt : i - C < g.cells.length := by omega
        repeat' refine goM rfl ?_
        rw [e4]
        repeat' (first|refine mid_sidxs rfl rfl hlt rfl ?_|refine goM rfl ?_|refine goY rfl ?_)
        simp only [hp0, decide_true, Bool.true_and, if_true, if_false, Bool.false_eq_true]
        rw [white_at hlt]
        (first | refine mid_gdT rfl rfl (fun hv => ?_) (fun hv => ?_) | refine mid_gdF rfl rfl (fun hv => ?_) (fun hv => ?_) | refine run_cnd rfl (fun hv => ?_) (fun hv => ?_)) <;> try rw [hv]
        · repeat' (first|refine goM rfl ?_|refine goR rfl ?_|refine goX rfl ?_|refine goY rfl ?_)
          (first|refine run_ret rfl ?_|refine run_done rfl ?_)
          simp [show cv g.cells[i - C] = 46 by simpa using hv]
        · repeat' (first|refine goM rfl ?_|refine goR rfl ?_|refine goX rfl ?_|refine goY rfl ?_)
          refine run_loopF rfl ?_
          have h1 : (cv g.cells[i - C] == 46) = false := hv
          simp only [h1, Bool.false_eq_true, if_false]
          have := key C (i / C) R (by omega) (by omega) (by omega) (by omega) hb 0 (by omega)
          simp only [Nat.zero_add, Nat.add_zero, Nat.zero_mul] at this
          exact this
      · have hp0 : ¬ 0 < i / C := fun h => absurd (Int.ofNat_lt.2 h) (of_decide_eq_false hp)
        repeat' (first|refine goM rfl ?_|refine goR rfl ?_|refine goX rfl ?_|refine goY rfl ?_)
        refine run_loopF rfl ?_
        simp only [hp0, decide_false, Bool.false_and, if_true, if_false, Bool.false_eq_true]
        have := key C (i / C) R (by omega) (by omega) (by omega) (by omega) hb 0 (by omega)
        simp only [Nat.zero_add, Nat.add_zero, Nat.zero_mul] at this
        exact this
theorem runImpl_ok (g : Grd) (hg : isGrid g = true) (i : Nat) (hi : i < g.cells.length) (d : Bool) : CallsOK PP F_impl_run [.agg (rGrd g), .v (.int .i64 i), .v (.bool d)] [.v (.int .i64 (runN g i d))] := by
  obtain ⟨R, C, hr, hc, hR, hC, r2, r6, c2, c6, hlen, h36⟩ := grid_nat hg
  refine S_impl_run rfl (Nat.le_of_ble_eq_true rfl) ?_
  rw [runN_at hR hC]
  have hG : rGrd g = [dI R, dI C, dS g.cells] := by simp only [rGrd, hr, hc]
  rw [hG]
  have key : ∀ (st pl mo : Nat), 1 ≤ st → st ≤ 6 → mo ≤ 6 → pl ≤ 36 → (∀ n, pl + n < mo → i + n * st < g.cells.length) → ∀ n : Nat, n ≤ 6 → L_impl_run_0 PP [(1, .v (.int .i64 i)), (3, .box [dI R, dI C, dS g.cells]), (7, .v (.int .i64 st)), (8, .v (.int .i64 pl)), (9, .v (.int .i64 mo)), (10, .v (.int .i64 n))]
      [.v (.int .i64 ((n + countW g st (mo - (pl + n)) (i + n * st) : Nat) : Int))] := by
    intro st pl mo s1 s6 m6 p36 hb
    have : ∀ f n : Nat, n ≤ 6 → mo - (pl + n) = f → L_impl_run_0 PP [(1, .v (.int .i64 i)), (3, .box [dI R, dI C, dS g.cells]), (7, .v (.int .i64 st)), (8, .v (.int .i64 pl)), (9, .v (.int .i64 mo)), (10, .v (.int .i64 n))]
        [.v (.int .i64 ((n + countW g st f (i + n * st) : Nat) : Int))] := by
      intro f
      induction f with
      | zero =>
        intro n hn hf
        have e1 : IntKind.i64.wrap ((pl : Int) + n) = ((pl + n : Nat) : Int) := by rw [w64 (by omega) (by omega)]; omega
        repeat' (first|refine goM rfl ?_|refine goR rfl ?_|refine goX rfl ?_)
        rw [e1, show decide (((pl + n : Nat) : Int) < (mo : Int)) = false by simp; omega]
        repeat' (first|refine goM rfl ?_|refine goR rfl ?_|refine goX rfl ?_|refine goY rfl ?_)
        (first|refine run_ret rfl ?_|refine run_done rfl ?_)
        rfl
      | succ f ih =>
        intro n hn hf
        have hlt := hb n (by omega)
        have hns : n * st ≤ 36 := Nat.mul_le_mul hn s6
        have e1 : IntKind.i64.wrap ((pl : Int) + n) = ((pl + n : Nat) : Int) := by rw [w64 (by omega) (by omega)]; omega
        have e2 : IntKind.i64.wrap ((n : Int) * st) = ((n * st : Nat) : Int) := by rw [← Int.natCast_mul, w64 (by omega) (by omega)]
        have e3 : IntKind.i64.wrap ((i : Int) + ((n * st : Nat) : Int)) = ((i + n * st : Nat) : Int) := by rw [w64 (by omega) (by omega)]; omega
        repeat' (first|refine goM rfl ?_|refine goR rfl ?_|refine goX rfl ?_)
        rw [e1, show decide (((pl + n : Nat) : Int) < (mo : Int)) = true by simp; omega]
        repeat' refine goM rfl ?_
        rw [e2, e3]
        repeat' (first|refine mid_sidxs rfl rfl hlt rfl ?_|refine goM rfl ?_|refine goY rfl ?_)
        simp only [countW]
        rw [white_at hlt]
        (first | refine mid_gdT rfl rfl (fun hw => ?_) (fun hw => ?_) | refine mid_gdF rfl rfl (fun hw => ?_) (fun hw => ?_) | refine run_cnd rfl (fun hw => ?_) (fun hw => ?_)) <;> try rw [hw]
        · repeat' (first|refine goM rfl ?_|refine goR rfl ?_|refine goX rfl ?_|refine goY rfl ?_)
          refine run_backF rfl ?_
          rw [wsucc (by omega)]
          simp only [if_true]
          have := ih (n + 1) (by omega) (by omega)
          rw [show i + (n + 1) * st = i + n * st + st by rw [Nat.add_mul]; omega, show n + 1 + countW g st f (i + n * st + st) = n + (countW g st f (i + n * st + st) + 1) by omega] at this
          exact this
        · repeat' (first|refine goM rfl ?_|refine goR rfl ?_|refine goX rfl ?_|refine goY rfl ?_)
          (first|refine run_ret rfl ?_|refine run_done rfl ?_)
          simp
    intro n hn
    exact this _ n hn rfl
  have hmod : i % C < C := Nat.mod_lt _ (by omega)
  have hdiv : i / C < R := Nat.div_lt_of_lt_mul (by rw [Nat.mul_comm]; omega)
  have hdm := Nat.div_add_mod i C
  have hdi : i / C ≤ i := Nat.div_le_self i C
  have eq : IntKind.i64.wrap ((i : Int).tdiv C) = ((i / C : Nat) : Int) := by
    rw [show (i : Int).tdiv C = ((i / C : Nat) : Int) from rfl]
    exact w64 (Int.le_trans (by decide) (Int.natCast_nonneg _)) (Int.lt_of_le_of_lt (Int.ofNat_le.2 (show i / C ≤ 36 by omega)) (by decide))
  cases d with
  | false =>
    have hb : ∀ n, i % C + n < C → i + n * 1 < g.cells.length := by
      intro n hn
      have h1 : C * (i / C) + C ≤ C * R := by have := Nat.mul_le_mul_left C (show i / C + 1 ≤ R from hdiv); rw [Nat.mul_add, Nat.mul_one] at this; exact this
      rw [hlen, Nat.mul_comm R C]; omega
    repeat' (first|refine mid_rem (q := ((i % C : Nat) : Int)) rfl rfl (by omega) rfl rfl ?_|refine mid_sidxs rfl rfl hi rfl ?_|refine goM rfl ?_|refine goR rfl ?_|refine goX rfl ?_|refine goY rfl ?_)
    rw [white_at hi]
    (first | refine mid_gdT rfl rfl (fun hw => ?_) (fun hw => ?_) | refine mid_gdF rfl rfl (fun hw => ?_) (fun hw => ?_) | refine run_cnd rfl (fun hw => ?_) (fun hw => ?_)) <;> try rw [hw]
    · repeat' (first|refine goM rfl ?_|refine goR rfl ?_|refine goX rfl ?_|refine goY rfl ?_)
      (first|refine run_ret rfl ?_|refine run_done rfl ?_)
      simp only [bne_iff_ne, ne_eq] at hw
      rw [show (cv g.cells[i] == 46) = false by simpa using hw]; rfl
    · have hw1 : (cv g.cells[i] == 46) = true := by simpa using hw
      have hw2 : ((g.cells[i].toNat : Int) != 46) = false := hw
      simp only [hw1, Bool.not_true, Bool.false_or]
      repeat' refine goM rfl ?_
      (first | refine mid_gdT rfl rfl (fun hp => ?_) (fun hp => ?_) | refine mid_gdF rfl rfl (fun hp => ?_) (fun hp => ?_) | refine run_cnd rfl (fun hp => ?_) (fun hp => ?_)) <;> try rw [hp]
      · have hp0 : 0 < i % C := Int.ofNat_lt.1 (of_decide_eq_true hp)
        have hge : 1 ≤ i := by have := Nat.mod_le i C; omega
        have e4 : IntKind.i64.wrap ((i : Int) - 1) = ((i - 1 : Nat) : Int) := by rw [w64 (by omega) (by omega)]; omega
        have hlt : i - 1 < g.cells.length := by omega
        repeat' refine goM rfl ?_
        rw [e4]
        repeat' (first|refine mid_sidxs rfl rfl hlt rfl ?_|refine goM rfl ?_|refine goY rfl ?_)
        simp only [hp0, decide_true, Bool.true_and, if_true, if_false, Bool.false_eq_true]
        rw [white_at hlt]
        (first | refine mid_gdT rfl rfl (fun hv => ?_) (fun hv => ?_) | refine mid_gdF rfl rfl (fun hv => ?_) (fun hv => ?_) | refine run_cnd rfl (fun hv => ?_) (fun hv => ?_)) <;> try rw [hv]
        · repeat' (first|refine goM rfl ?_|refine goR rfl ?_|refine goX rfl ?_|refine goY rfl ?_)
          (first|refine run_ret rfl ?_|refine run_done rfl ?_)
          simp [show cv g.cells[i - 1] = 46 by simpa using hv]
        · repeat' (first|refine goM rfl ?_|refine goR rfl ?_|refine goX rfl ?_|refine goY rfl ?_)
          refine run_loopF rfl ?_
          have h1 : (cv g.cells[i - 1] == 46) = false := hv
          simp only [h1, Bool.false_eq_true, if_false]
          have := key 1 (i % C) C (by omega) (by omega) (by omega) (by omega) hb 0 (by omega)
          simp only [Nat.zero_add, Nat.add_zero, Nat.zero_mul] at this
          exact this
      · have hp0 : ¬ 0 < i % C := fun h => absurd (Int.ofNat_lt.2 h) (of_decide_eq_false hp)
        repeat' (first|refine goM rfl ?_|refine goR rfl ?_|refine goX rfl ?_|refine goY rfl ?_)
        refine run_loopF rfl ?_
        simp only [hp0, decide_false, Bool.false_and, if_true, if_false, Bool.false_eq_true]
        have := key 1 (i % C) C (by omega) (by omega) (by omega) (by omega) hb 0 (by omega)
        simp only [Nat.zero_add, Nat.add_zero, Nat.zero_mul] at this
        exact this
  | true =>
    have hb : ∀ n, i / C + n < R → i + n * C < g.cells.length := by
      intro n hn
      have h1 : C * (i / C + n + 1) ≤ C * R := Nat.mul_le_mul_left C (show i / C + n + 1 ≤ R from hn)
      rw [Nat.mul_add, Nat.mul_add, Nat.mul_one] at h1
      rw [hlen, Nat.mul_comm R C, Nat.mul_comm n C]; omega
    repeat' (first|refine mid_rem (q := ((i % C : Nat) : Int)) rfl rfl (by omega) rfl rfl ?_|refine mid_quo (q := ((i / C : Nat) : Int)) rfl rfl (by omega) eq rfl ?_|refine mid_sidxs rfl rfl hi rfl ?_|refine goM rfl ?_|refine goR rfl ?_|refine goX rfl ?_|refine goY rfl ?_)
    rw [white_at hi]
    (first | refine mid_gdT rfl rfl (fun hw => ?_) (fun hw => ?_) | refine mid_gdF rfl rfl (fun hw => ?_) (fun hw => ?_) | refine run_cnd rfl (fun hw => ?_) (fun hw => ?_)) <;> try rw [hw]
    · repeat' (first|refine goM rfl ?_|refine goR rfl ?_|refine goX rfl ?_|refine goY rfl ?_)
      (first|refine run_ret rfl ?_|refine run_done rfl ?_)
      simp only [bne_iff_ne, ne_eq] at hw
      rw [show (cv g.cells[i] == 46) = false by simpa using hw]; rfl
    · have hw1 : (cv g.cells[i] == 46) = true := by simpa using hw
      have hw2 : ((g.cells[i].toNat : Int) != 46) = false := hw
      simp only [hw1, Bool.not_true, Bool.false_or]
      repeat' refine goM rfl ?_
      (first | refine mid_gdT rfl rfl (fun hp => ?_) (fun hp => ?_) | refine mid_gdF rfl rfl (fun hp => ?_) (fun hp => ?_) | refine run_cnd rfl (fun hp => ?_) (fun hp => ?_)) <;> try rw [hp]
      · have hp0 : 0 < i / C := Int.ofNat_lt.1 (of_decide_eq_true hp)
        have hge : C ≤ i := by have := Nat.mul_le_mul_left C (show 1 ≤ i / C from hp0); omega
        have e4 : IntKind.i64.wrap ((i : Int) - C) = ((i - C : Nat) : Int) := by rw [w64 (by omega) (by omega)]; omega
        have hlt : i - C < g.cells.length := by omega
        repeat' refine goM rfl ?_
        rw [e4]
        repeat' (first|refine mid_sidxs rfl rfl hlt rfl ?_|refine goM rfl ?_|refine goY rfl ?_)
        simp only [hp0, decide_true, Bool.true_and, if_true, if_false, Bool.false_eq_true]
        rw [white_at hlt]
        (first | refine mid_gdT rfl rfl (fun hv => ?_) (fun hv => ?_) | refine mid_gdF rfl rfl (fun hv => ?_) (fun hv => ?_) | refine run_cnd rfl (fun hv => ?_) (fun hv => ?_)) <;> try rw [hv]
        · repeat' (first|refine goM rfl ?_|refine goR rfl ?_|refine goX rfl ?_|refine goY rfl ?_)
          (first|refine run_ret rfl ?_|refine run_done rfl ?_)
          simp [show cv g.cells[i - C] = 46 by simpa using hv]
        · repeat' (first|refine goM rfl ?_|refine goR rfl ?_|refine goX rfl ?_|refine goY rfl ?_)
          refine run_loopF rfl ?_
          have h1 : (cv g.cells[i - C] == 46) = false := hv
          simp only [h1, Bool.false_eq_true, if_false]
          have := key C (i / C) R (by omega) (by omega) (by omega) (by omega) hb 0 (by omega)
          simp only [Nat.zero_add, Nat.add_zero, Nat.zero_mul] at this
          exact this
      · have hp0 : ¬ 0 < i / C := fun h => absurd (Int.ofNat_lt.2 h) (of_decide_eq_false hp)
        repeat' (first|refine goM rfl ?_|refine goR rfl ?_|refine goX rfl ?_|refine goY rfl ?_)
        refine run_loopF rfl ?_
        simp only [hp0, decide_false, Bool.false_and, if_true, if_false, Bool.false_eq_true]
        have := key C (i / C) R (by omega) (by omega) (by omega) (by omega) hb 0 (by omega)
        simp only [Nat.zero_add, Nat.add_zero, Nat.zero_mul] at this
        exact this
end Go.Rd

namespace Go.Rd
open Go.Proofs
set_option linter.unusedSimpArgs false
set_option linter.unusedVariables false
set_option maxRecDepth 10000
theorem slotsGo_len (g : Grd) : ∀ f i n, (slotsGo g f i n).length ≤ 2 * f
  | 0, _, _ => by simp [slotsGo]
  | f + 1, i, n => by
    have h := slotsGo_len g f (i + 1)
    simp only [slotsGo, List.length_append]
    have h1 : ∀ (p : Prop) [Decidable p] (x : Slt), (if p then [x] else []).length ≤ 1 := by intro p _ x; split <;> simp
    have := h1 (2 ≤ runN g i false)
    have := h1 (2 ≤ runN g i true)
    split
    all_goals split
    all_goals split
    all_goals simp only [List.length_cons, List.length_nil]
    all_goals (first | (have := h n; omega) | (have := h (n + 1); omega))
theorem runN_le (g : Grd) (i : Nat) (d : Bool) (h : g.R ≤ 6) (h' : g.C ≤ 6) : runN g i d ≤ 6 := by
  have hc : ∀ st f j, countW g st f j ≤ f := by
    intro st f
    induction f with
    | zero => intro j; simp [countW]
    | succ f ih => intro j; simp only [countW]; split; have := ih (j + st); omega; omega
  have ite_le : ∀ (p : Bool) (x : Nat), x ≤ 6 → (if p = true then 0 else x) ≤ 6 := fun p x hx => by split <;> omega
  cases d
  · exact ite_le _ _ (Nat.le_trans (hc _ _ _) (Nat.le_trans (Nat.sub_le _ _) h'))
  · exact ite_le _ _ (Nat.le_trans (hc _ _ _) (Nat.le_trans (Nat.sub_le _ _) h))
def slotsHere (g : Grd) (i n : Nat) : List Slt := (if 2 ≤ runN g i false then [⟨n, false, i, runN g i false⟩] else []) ++ (if 2 ≤ runN g i true then [⟨n, true, i, runN g i true⟩] else [])
theorem slotsGo_succ (g : Grd) (f i n : Nat) : slotsGo g (f + 1) i n = slotsHere g i (if decide (2 ≤ runN g i false) || decide (2 ≤ runN g i true) then n + 1 else n) ++ slotsGo g f (i + 1) (if decide (2 ≤ runN g i false) || decide (2 ≤ runN g i true) then n + 1 else n) := by
  simp only [slotsGo, slotsHere, List.append_assoc]
theorem SlotsOf_ok (g : Grd) (hg0 : g.cells.length ≤ 1048576) : CallsOK PP F_impl_SlotsOf [.agg (rGrd g)] [.own T_impl_Slot 4 32 ((slotsOf g).map rSlt)] := by
  refine S_impl_SlotsOf rfl (Nat.le_of_ble_eq_true rfl) ?_
  repeat' (first|refine goM rfl ?_|refine goR rfl ?_|refine goX rfl ?_|refine goY rfl ?_|refine goC (IsGrid_ok g hg0) rfl rfl rfl rfl ?_)
  (first | refine mid_gdT rfl rfl (fun hg => ?_) (fun hg => ?_) | refine mid_gdF rfl rfl (fun hg => ?_) (fun hg => ?_) | refine run_cnd rfl (fun hg => ?_) (fun hg => ?_)) <;> try rw [hg]
  · repeat' (first|refine goM rfl ?_|refine goR rfl ?_|refine goX rfl ?_|refine goY rfl ?_)
    (first|refine run_ret rfl ?_|refine run_done rfl ?_)
    simp only [Bool.not_eq_true'] at hg
    simp only [slotsOf, hg, Bool.false_eq_true, if_false]
    rfl
  · simp only [Bool.not_eq_false'] at hg
    obtain ⟨R, C, hr, hc, hR, hC, r2, r6, c2, c6, hlen, h36⟩ := grid_nat hg
    have key : ∀ k : Nat, ∀ (n : Nat) (acc : List Slt), n ≤ k → acc.length ≤ 2 * k → k ≤ g.cells.length → L_impl_SlotsOf_0 PP [(1, .box (rGrd g)), (3, .own T_impl_Slot 4 32 (acc.map rSlt)), (4, .v (.int .i64 n)), (13, .v (.int .i64 g.cells.length)), (14, .v (.int .i64 k))]
        [.own T_impl_Slot 4 32 ((acc ++ slotsGo g (g.cells.length - k) k n).map rSlt)] := up g.cells.length (fun k ih n acc hn hacc hk0 => ?_)
    · repeat' (first|refine goM rfl ?_|refine goR rfl ?_|refine goX rfl ?_|refine goY rfl ?_)
      refine run_loopF rfl ?_
      have := key 0 0 [] (by omega) (by simp) (by omega)
      simp only [slotsOf, hg, if_true]
      exact this
    · repeat' (first|refine goM rfl ?_|refine goR rfl ?_|refine goX rfl ?_|refine goY rfl ?_)
      refine run_cnd_lt rfl (fun hk => ?_) (fun hk => ?_)
      · have ha6 := runN_le g k false (by omega) (by omega)
        have hd6 := runN_le g k true (by omega) (by omega)
        repeat' (first|refine goM rfl ?_|refine goR rfl ?_|refine goX rfl ?_|refine goY rfl ?_|refine goC (runImpl_ok g hg k hk false) rfl rfl rfl rfl ?_|refine goC (runImpl_ok g hg k hk true) rfl rfl rfl rfl ?_)
        rw [show g.cells.length - k = (g.cells.length - (k + 1)) + 1 by omega, slotsGo_succ]
        have wn : IntKind.i64.wrap ((n : Int) + 1) = ((n + 1 : Nat) : Int) := wsucc (by omega)
        have dA : ∀ a : Nat, decide ((2 : Int) ≤ (a : Int)) = decide (2 ≤ a) := fun a => by congr 1; exact propext (by omega)
        simp only [dA]
        cases hA : decide (2 ≤ runN g k false) <;> cases hD : decide (2 ≤ runN g k true)
        all_goals simp only [decide_eq_true_eq, decide_eq_false_iff_not] at hA hD
        all_goals repeat' (first | refine goM rfl ?_ | refine goR rfl ?_ | refine goX rfl ?_ | refine goY rfl ?_)
        all_goals try simp only [dA, hA, hD, decide_true, decide_false, Bool.or_self, Bool.or_true, Bool.true_or, Bool.false_eq_true, if_true, if_false, slotsHere, List.nil_append, List.append_nil, wn]
        all_goals repeat' (first | refine mid_app rfl rfl rfl (by decide) rfl (by simp; omega) (by simp; omega) ?_ | refine goM rfl ?_ | refine goR rfl ?_ | refine goX rfl ?_ | refine goY rfl ?_)
        all_goals try simp only [dA, hA, hD, decide_true, decide_false, wn]
        all_goals repeat' (first | refine mid_app rfl rfl rfl (by decide) rfl (by simp; omega) (by simp; omega) ?_ | refine goM rfl ?_ | refine goR rfl ?_ | refine goX rfl ?_ | refine goY rfl ?_)
        all_goals try simp only [dA, hA, hD, decide_true, decide_false, wn]
        all_goals repeat' (first | refine mid_app rfl rfl rfl (by decide) rfl (by simp; omega) (by simp; omega) ?_ | refine goM rfl ?_ | refine goR rfl ?_ | refine goX rfl ?_ | refine goY rfl ?_)
        all_goals refine run_backF rfl ?_
        all_goals rw [wsucc (by omega)]
        · exact ih hk n acc (by omega) (by omega) (by omega)
        · have := ih hk (n + 1) (acc ++ [⟨(n + 1 : Nat), true, k, runN g k true⟩]) (by omega) (by simp; omega) (by omega)
          rw [List.map_append, List.append_assoc] at this
          exact this
        · have := ih hk (n + 1) (acc ++ [⟨(n + 1 : Nat), false, k, runN g k false⟩]) (by omega) (by simp; omega) (by omega)
          rw [List.map_append, List.append_assoc] at this
          exact this
        · have := ih hk (n + 1) (acc ++ [⟨(n + 1 : Nat), false, k, runN g k false⟩] ++ [⟨(n + 1 : Nat), true, k, runN g k true⟩]) (by omega) (by simp; omega) (by omega)
          rw [List.map_append, List.map_append] at this
          simp only [List.append_assoc] at this ⊢
          exact this
      · repeat' (first|refine goM rfl ?_|refine goR rfl ?_|refine goX rfl ?_|refine goY rfl ?_)
        (first|refine run_ret rfl ?_|refine run_done rfl ?_)
        rw [show g.cells.length - k = 0 by omega]
        simp [slotsGo]
theorem SlotsOf_ok' (g : Grd) (hg0 : g.cells.length ≤ 1048576) : CallsOK PP F_spec_SlotsOf [.agg (rGrd g)] [.own T_impl_Slot 4 32 ((slotsOf g).map rSlt)] := by
  refine S_spec_SlotsOf rfl (Nat.le_of_ble_eq_true rfl) ?_
  by_cases hg : isGrid g = true
  · obtain ⟨R, C, hr, hc, hR, hC, r2, r6, c2, c6, hlen, h36⟩ := grid_nat hg
    have key : ∀ k : Nat, ∀ (n : Nat) (acc : List Slt), n ≤ k → acc.length ≤ 2 * k → k ≤ g.cells.length → L_spec_SlotsOf_0 PP [(1, .box (rGrd g)), (3, .own T_impl_Slot 4 32 (acc.map rSlt)), (4, .v (.int .i64 n)), (5, .v (.int .i64 k))]
        [.own T_impl_Slot 4 32 ((acc ++ slotsGo g (g.cells.length - k) k n).map rSlt)] := up g.cells.length (fun k ih n acc hn hacc hk0 => ?_)
    · repeat' (first|refine goM rfl ?_|refine goR rfl ?_|refine goX rfl ?_|refine goY rfl ?_)
      refine run_loopF rfl ?_
      have := key 0 0 [] (by omega) (by simp) (by omega)
      simp only [slotsOf, hg, if_true]
      exact this
    · repeat' (first|refine goM rfl ?_|refine goR rfl ?_|refine goX rfl ?_)
      by_cases hk : k < g.cells.length
      · rw [show decide ((k : Int) < (g.cells.length : Int)) = true by simpa using hk]
        have ha6 := runN_le g k false (by omega) (by omega)
        have hd6 := runN_le g k true (by omega) (by omega)
        repeat' (first|refine goM rfl ?_|refine goY rfl ?_|refine goC (IsGrid_ok' g hg0) rfl rfl rfl rfl ?_)
        rw [hg]
        repeat' (first|refine goM rfl ?_|refine goR rfl ?_|refine goX rfl ?_|refine goY rfl ?_|refine goC (l8From_ok g hg k hk false) rfl rfl rfl rfl ?_|refine goC (l8From_ok g hg k hk true) rfl rfl rfl rfl ?_)
        rw [show g.cells.length - k = (g.cells.length - (k + 1)) + 1 by omega, slotsGo_succ]
        have wn : IntKind.i64.wrap ((n : Int) + 1) = ((n + 1 : Nat) : Int) := wsucc (by omega)
        have dA : ∀ a : Nat, decide ((2 : Int) ≤ (a : Int)) = decide (2 ≤ a) := fun a => by congr 1; exact propext (by omega)
        simp only [dA]
        cases hA : decide (2 ≤ runN g k false) <;> cases hD : decide (2 ≤ runN g k true)
        all_goals simp only [decide_eq_true_eq, decide_eq_false_iff_not] at hA hD
        all_goals repeat' (first | refine goM rfl ?_ | refine goR rfl ?_ | refine goX rfl ?_ | refine goY rfl ?_)
        all_goals try simp only [dA, hA, hD, decide_true, decide_false, Bool.or_self, Bool.or_true, Bool.true_or, Bool.false_eq_true, if_true, if_false, slotsHere, List.nil_append, List.append_nil, wn]
        all_goals repeat' (first | refine mid_app rfl rfl rfl (by decide) rfl (by simp; omega) (by simp; omega) ?_ | refine goM rfl ?_ | refine goR rfl ?_ | refine goX rfl ?_ | refine goY rfl ?_)
        all_goals try simp only [dA, hA, hD, decide_true, decide_false, wn]
        all_goals repeat' (first | refine mid_app rfl rfl rfl (by decide) rfl (by simp; omega) (by simp; omega) ?_ | refine goM rfl ?_ | refine goR rfl ?_ | refine goX rfl ?_ | refine goY rfl ?_)
        all_goals try simp only [dA, hA, hD, decide_true, decide_false, wn]
        all_goals repeat' (first | refine mid_app rfl rfl rfl (by decide) rfl (by simp; omega) (by simp; omega) ?_ | refine goM rfl ?_ | refine goR rfl ?_ | refine goX rfl ?_ | refine goY rfl ?_)
        all_goals refine run_backF rfl ?_
        all_goals rw [wsucc (by omega)]
        · exact ih hk n acc (by omega) (by omega) (by omega)
        · have := ih hk (n + 1) (acc ++ [⟨(n + 1 : Nat), true, k, runN g k true⟩]) (by omega) (by simp; omega) (by omega)
          rw [List.map_append, List.append_assoc] at this
          exact this
        · have := ih hk (n + 1) (acc ++ [⟨(n + 1 : Nat), false, k, runN g k false⟩]) (by omega) (by simp; omega) (by omega)
          rw [List.map_append, List.append_assoc] at this
          exact this
        · have := ih hk (n + 1) (acc ++ [⟨(n + 1 : Nat), false, k, runN g k false⟩] ++ [⟨(n + 1 : Nat), true, k, runN g k true⟩]) (by omega) (by simp; omega) (by omega)
          rw [List.map_append, List.map_append] at this
          simp only [List.append_assoc] at this ⊢
          exact this
      · rw [show decide ((k : Int) < (g.cells.length : Int)) = false by simpa using hk]
        repeat' (first|refine goM rfl ?_|refine goR rfl ?_|refine goX rfl ?_|refine goY rfl ?_)
        (first|refine run_ret rfl ?_|refine run_done rfl ?_)
        rw [show g.cells.length - k = 0 by omega]
        simp [slotsGo]
  · have hg : isGrid g = false := by simpa using hg
    simp only [slotsOf, hg, Bool.false_eq_true, if_false]
    repeat' (first|refine goM rfl ?_|refine goR rfl ?_|refine goX rfl ?_|refine goY rfl ?_)
    refine run_loopF rfl ?_
    repeat' (first|refine goM rfl ?_|refine goR rfl ?_|refine goX rfl ?_)
    by_cases hk : 0 < g.cells.length
    · rw [show decide ((0 : Int) < (g.cells.length : Int)) = true by simpa using hk]
      repeat' (first|refine goM rfl ?_|refine goY rfl ?_|refine goC (IsGrid_ok' g hg0) rfl rfl rfl rfl ?_)
      rw [hg]
      repeat' (first|refine goM rfl ?_|refine goR rfl ?_|refine goX rfl ?_|refine goY rfl ?_)
      (first|refine run_ret rfl ?_|refine run_done rfl ?_)
      rfl
    · rw [show decide ((0 : Int) < (g.cells.length : Int)) = false by simpa using hk]
      repeat' (first|refine goM rfl ?_|refine goR rfl ?_|refine goX rfl ?_|refine goY rfl ?_)
      (first|refine run_ret rfl ?_|refine run_done rfl ?_)
      rfl
end Go.Rd

namespace Go.Rd
def allI {α : Type} (f : Nat → α → Bool) : List α → Nat → Bool
  | [], _ => true
  | x :: xs, i => f i x && allI f xs (i + 1)
def inI (a : Int) (n : Nat) : Bool := decide (0 ≤ a) && decide (a < n)
def backwards (s : Str) : Str := if s.length ≤ 100 then s.reverse else []
def needsWord (k : Int) : Bool := k == 3 || decide (6 ≤ k)
def isPair (k : Int) : Bool := k == 4 || k == 5
def stepOk (l : List Stp) (i : Nat) (x : Stp) : Bool :=
  inR x.kind 1 9 && (if x.kind == 1 then isWord x.word && x.a == 0 && x.b == 0
    else x.word == [] && inI x.a i && (!needsWord x.kind || (l.getD x.a.toNat default).kind == 1) && (if isPair x.kind then inI x.b i else x.b == 0))
def isPlay (l : List Stp) : Bool := inR l.length 1 9 && allI (stepOk l) l 0
def isClue (c : Clu) : Bool := inR c.sense 1 99 && isPlay c.play
def isSym (g : Grd) : Bool := isGrid g && (g.cells == g.cells.reverse)
def Grd.near (g : Grd) (i j : Nat) : Prop :=
  g.white i = true ∧ g.white j = true ∧ ((i / g.C = j / g.C ∧ (i + 1 = j ∨ j + 1 = i)) ∨ i + g.C = j ∨ j + g.C = i)
inductive Grd.Reach (g : Grd) : Nat → Nat → Prop
  | refl {i : Nat} : g.Reach i i
  | step {i j k : Nat} : g.Reach i j → g.near j k → g.Reach i k
open Classical in
noncomputable def partsOf (g : Grd) : Nat :=
  if isGrid g then ((List.range g.cells.length).filter fun i => g.white i && decide (∀ j, j < i → g.white j = true → ¬ g.Reach j i)).length else 0
def aloneIn (g : Grd) (f : Str) : Bool := (List.range g.cells.length).any fun c => g.white c && (slotsAt g c == []) && !isL (f.getD c 0)
def crowded (g : Grd) : Bool := allI (fun i (s : Slt) => !decide (2 * (uncheckedIn g i : Int) > s.len)) (slotsOf g) 0
noncomputable def formOf (g : Grd) : Int :=
  if !isGrid g then 1 else if !isSym g then 2 else if !(partsOf g == 1) then 3
  else if (slotsOf g).any (fun s => decide (s.len < 3)) then 4 else if !crowded g || aloneIn g g.cells then 5 else 0
theorem allI_drop {α : Type} (f : Nat → α → Bool) (l : List α) {k : Nat} (h : k < l.length) : allI f (l.drop k) k = (f k l[k] && allI f (l.drop (k + 1)) (k + 1)) := by
  rw [List.drop_eq_getElem_cons h]; rfl
theorem allI_nil {α : Type} (f : Nat → α → Bool) (l : List α) {k : Nat} (h : ¬ k < l.length) : allI f (l.drop k) k = true := by
  rw [List.drop_eq_nil_of_le (by omega)]; rfl
theorem any_drop {α : Type} (p : α → Bool) (l : List α) {k : Nat} (h : k < l.length) : (l.drop k).any p = (p l[k] || (l.drop (k + 1)).any p) := by
  rw [List.drop_eq_getElem_cons h, List.any_cons]
theorem any_drop_nil {α : Type} (p : α → Bool) (l : List α) {k : Nat} (h : ¬ k < l.length) : (l.drop k).any p = false := by
  rw [List.drop_eq_nil_of_le (by omega)]; rfl
end Go.Rd

namespace Go.Rd
open Go.Proofs
set_option linter.unusedSimpArgs false
set_option linter.unusedVariables false
set_option maxRecDepth 10000
theorem Backwards_ok' (s : Str) : CallsOK PP F_spec_Backwards [.v (.str s)] [.v (.str (backwards s))] := by
  refine S_spec_Backwards rfl (Nat.le_of_ble_eq_true rfl) ?_
  by_cases hl : s.length ≤ 100
  · have key : ∀ k : Nat, k ≤ s.length → L_spec_Backwards_0 PP [(0, .v (.str s)), (3, .v (.str (s.take k).reverse)), (4, .v (.int .i64 k))] [.v (.str s.reverse)] := up s.length (fun k ih hk0 => ?_)
    · repeat' (first|refine goM rfl ?_|refine goR rfl ?_|refine goX rfl ?_|refine goY rfl ?_)
      refine run_loopF rfl ?_
      simp only [backwards, hl, if_true]
      exact key 0 (by omega)
    · repeat' (first|refine goM rfl ?_|refine goR rfl ?_|refine goX rfl ?_)
      (first | refine mid_gdT rfl rfl (fun hk => ?_) (fun hk => ?_) | refine mid_gdF rfl rfl (fun hk => ?_) (fun hk => ?_) | refine run_cnd rfl (fun hk => ?_) (fun hk => ?_)) <;> try rw [hk]
      · have hk' : k < s.length := by simpa using hk
        have h100 : decide ((s.length : Int) ≤ 100) = true := by simp; omega
        repeat' (first|refine goM rfl ?_|refine goY rfl ?_)
        simp only [h100]
        repeat' (first|refine mid_byte rfl rfl rfl hk' (by omega) rfl ?_|refine mid_cat rfl rfl (by simp; omega) rfl ?_|refine goM rfl ?_|refine goR rfl ?_|refine goX rfl ?_|refine goY rfl ?_)
        refine run_backF rfl ?_
        rw [wsucc (by omega)]
        have := ih hk' (by omega)
        rw [List.take_succ_eq_append_getElem hk', List.reverse_append] at this
        exact this
      · have hk' : ¬ k < s.length := by simpa using hk
        repeat' (first|refine goM rfl ?_|refine goR rfl ?_|refine goX rfl ?_|refine goY rfl ?_)
        (first|refine run_ret rfl ?_|refine run_done rfl ?_)
        rw [List.take_of_length_le (by omega)]
  · simp only [backwards, hl, if_false]
    repeat' (first|refine goM rfl ?_|refine goR rfl ?_|refine goX rfl ?_|refine goY rfl ?_)
    refine run_loopF rfl ?_
    repeat' (first|refine goM rfl ?_|refine goR rfl ?_|refine goX rfl ?_)
    rw [show decide ((0 : Int) < (s.length : Int)) = true by simp; omega]
    repeat' (first|refine goM rfl ?_|refine goY rfl ?_)
    rw [show decide ((s.length : Int) ≤ 100) = false by simp; omega]
    repeat' (first|refine goM rfl ?_|refine goR rfl ?_|refine goX rfl ?_|refine goY rfl ?_)
    (first|refine run_ret rfl ?_|refine run_done rfl ?_)
    rfl
theorem needsWord_ok (k : Int) : CallsOK PP F_impl_needsWord [.v (.int .i64 k)] [.v (.bool (needsWord k))] := by
  refine S_impl_needsWord rfl (Nat.le_of_ble_eq_true rfl) ?_
  repeat' (first|refine goM rfl ?_|refine goR rfl ?_|refine goX rfl ?_|refine goY rfl ?_)
  (first | refine mid_gdT rfl rfl (fun hb => ?_) (fun hb => ?_) | refine mid_gdF rfl rfl (fun hb => ?_) (fun hb => ?_) | refine run_cnd rfl (fun hb => ?_) (fun hb => ?_)) <;> try rw [hb]
  all_goals repeat' (first | refine goM rfl ?_ | refine goY rfl ?_)
  all_goals (first|refine run_ret rfl ?_|refine run_done rfl ?_)
  all_goals simp [needsWord, hb]
theorem isPair_ok (k : Int) : CallsOK PP F_impl_isPair [.v (.int .i64 k)] [.v (.bool (isPair k))] := by
  refine S_impl_isPair rfl (Nat.le_of_ble_eq_true rfl) ?_
  repeat' (first|refine goM rfl ?_|refine goR rfl ?_|refine goX rfl ?_|refine goY rfl ?_)
  (first | refine mid_gdT rfl rfl (fun hb => ?_) (fun hb => ?_) | refine mid_gdF rfl rfl (fun hb => ?_) (fun hb => ?_) | refine run_cnd rfl (fun hb => ?_) (fun hb => ?_)) <;> try rw [hb]
  all_goals repeat' (first | refine goM rfl ?_ | refine goY rfl ?_)
  all_goals (first|refine run_ret rfl ?_|refine run_done rfl ?_)
  all_goals simp [isPair, hb]
end Go.Rd

namespace Go.Rd
open Go.Proofs
set_option linter.unusedSimpArgs false
set_option linter.unusedVariables false
set_option maxRecDepth 10000
def findGo {α : Type} (p : α → Bool) : List α → Nat → Int
  | [], _ => -1
  | x :: xs, i => if p x then (i : Int) else findGo p xs (i + 1)
theorem findGo_drop {α : Type} (p : α → Bool) (l : List α) {k : Nat} (h : k < l.length) : findGo p (l.drop k) k = if p l[k] then (k : Int) else findGo p (l.drop (k + 1)) (k + 1) := by
  rw [List.drop_eq_getElem_cons h]; rfl
theorem findGo_nil {α : Type} (p : α → Bool) (l : List α) {k : Nat} (h : ¬ k < l.length) : findGo p (l.drop k) k = -1 := by
  rw [List.drop_eq_nil_of_le (by omega)]; rfl
theorem findGo_any {α : Type} (p : α → Bool) : ∀ (l : List α) (i : Nat), decide (0 ≤ findGo p l i) = l.any p
  | [], i => by simp [findGo]
  | x :: xs, i => by
    simp only [findGo, List.any_cons]
    by_cases h : p x = true
    · simp [h]
    · simp only [h, Bool.false_eq_true, if_false, Bool.false_or]; exact findGo_any p xs (i + 1)
theorem IndexInt_ok (l : List Int) (v : Int) (hl : l.length ≤ 1048576) : CallsOK PP F_slices_Index_int [.v (dInts l), .v (.int .i64 v)] [.v (.int .i64 (findGo (v == ·) l 0))] := by
  refine S_slices_Index_int rfl (Nat.le_of_ble_eq_true rfl) ?_
  have key : ∀ k : Nat, L_slices_Index_int_0 PP [(0, .v (dInts l)), (1, .v (.int .i64 v)), (7, .v (.int .i64 l.length)), (8, .v (.int .i64 k))] [.v (.int .i64 (findGo (v == ·) (l.drop k) k))] := up l.length (fun k ih => ?_)
  · repeat' (first|refine goM rfl ?_|refine goR rfl ?_|refine goX rfl ?_|refine goY rfl ?_)
    simp only [List.length_map]
    refine run_loopF rfl ?_
    exact key 0
  · repeat' (first|refine goM rfl ?_|refine goR rfl ?_|refine goX rfl ?_|refine goY rfl ?_)
    refine run_cnd_lt rfl (fun hk => ?_) (fun hk => ?_)
    · rw [findGo_drop _ l hk]
      repeat' (first|refine mid_idxm rfl rfl hk rfl ?_|refine goM rfl ?_|refine goR rfl ?_|refine goX rfl ?_|refine goY rfl ?_)
      (first | refine mid_gdT rfl rfl (fun hb => ?_) (fun hb => ?_) | refine mid_gdF rfl rfl (fun hb => ?_) (fun hb => ?_) | refine run_cnd rfl (fun hb => ?_) (fun hb => ?_)) <;> try rw [hb]
      · repeat' (first|refine goM rfl ?_|refine goR rfl ?_|refine goX rfl ?_|refine goY rfl ?_)
        (first|refine run_ret rfl ?_|refine run_done rfl ?_)
        rfl
      · repeat' (first|refine goM rfl ?_|refine goR rfl ?_|refine goX rfl ?_|refine goY rfl ?_)
        refine run_backF rfl ?_
        rw [wsucc (by omega)]
        exact ih hk
    · repeat' (first|refine goM rfl ?_|refine goR rfl ?_|refine goX rfl ?_|refine goY rfl ?_)
      (first|refine run_ret rfl ?_|refine run_done rfl ?_)
      rw [findGo_nil _ l hk]
theorem ContainsInt_ok (l : List Int) (v : Int) (hl : l.length ≤ 1048576) : CallsOK PP F_slices_Contains_int [.v (dInts l), .v (.int .i64 v)] [.v (.bool (l.any (v == ·)))] := by
  refine S_slices_Contains_int rfl (Nat.le_of_ble_eq_true rfl) ?_
  repeat' (first|refine goM rfl ?_|refine goR rfl ?_|refine goX rfl ?_|refine goY rfl ?_|refine goC (IndexInt_ok l v hl) rfl rfl rfl rfl ?_)
  (first|refine run_ret rfl ?_|refine run_done rfl ?_)
  rw [findGo_any]
end Go.Rd

namespace Go.Rd
open Go.Proofs
set_option linter.unusedSimpArgs false
set_option linter.unusedVariables false
set_option maxRecDepth 10000
set_option maxHeartbeats 4000000
theorem stepOk_inI (a : Int) (i : Nat) : inR a 0 (IntKind.i64.wrap ((i : Int) - 1)) = inI a i ∨ 9223372036854775806 < i := by
  by_cases h : 9223372036854775806 < i
  · exact .inr h
  · left
    rw [w64 (by omega) (by omega)]
    simp only [inR, inI]; congr 1; exact decide_eq_decide.2 (by omega)
theorem l15Ok_ok (l : List Stp) (i : Nat) (hi : i < l.length) (hl : l.length ≤ 9) : CallsOK PP F_spec_l15Ok [.v (dStps l), .v (.int .i64 i)] [.v (.bool (stepOk l i l[i]))] := by
  refine S_spec_l15Ok rfl (Nat.le_of_ble_eq_true rfl) ?_
  have e1 : ∀ a, inR a 0 (IntKind.i64.wrap ((i : Int) - 1)) = inI a i := fun a => (stepOk_inI a i).resolve_right (by omega)
  repeat' (first|refine mid_idxm rfl rfl hi rfl ?_|refine goM rfl ?_|refine goR rfl ?_|refine goX rfl ?_|refine goY rfl ?_)
  generalize l[i] = x
  simp only [rStp]
  repeat' (first|refine mid_idxj rfl rfl (by simp only [Bool.not_eq_false', e1, inI, Bool.and_eq_true, decide_eq_true_eq] at *; omega) rfl ?_|refine goM rfl ?_|refine goR rfl ?_|refine goX rfl ?_|refine goY rfl ?_|refine goC (l1In_ok _ _ _) rfl rfl rfl rfl ?_|refine goC (IsWord_ok' _) rfl rfl rfl rfl ?_|(refine mid_gdT rfl rfl (fun hb => ?_) (fun hb => ?_) <;> try rw [hb])|(refine mid_gdF rfl rfl (fun hb => ?_) (fun hb => ?_) <;> try rw [hb])|(refine run_cnd rfl (fun hb => ?_) (fun hb => ?_) <;> try rw [hb]))
  all_goals (first|refine run_ret rfl ?_|refine run_done rfl ?_)
  all_goals simp_all [stepOk, needsWord, isPair, rStp]
  · by_cases hk : x.kind = 1
    · simp_all
    · simp only [hk, if_false]
      intro hw
      simp_all [isWord, inR]
  · intro hw
    have hk : (x.kind == 1) = false := by simp_all
    simp_all
  · intro h3 h6
    simp only [inR, Bool.and_eq_true, decide_eq_true_eq] at *
    omega
theorem IsPlay_ok' (l : List Stp) (hl : l.length ≤ 1048576) : CallsOK PP F_spec_IsPlay [.v (dStps l)] [.v (.bool (isPlay l))] := by
  refine S_spec_IsPlay rfl (Nat.le_of_ble_eq_true rfl) ?_
  by_cases h9 : l.length ≤ 9
  · have key : ∀ k : Nat, L_spec_IsPlay_0 PP [(0, .v (dStps l)), (3, .v (.int .i64 k))] [.v (.bool (inR l.length 1 9 && allI (stepOk l) (l.drop k) k))] := up l.length (fun k ih => ?_)
    · repeat' (first|refine goM rfl ?_|refine goR rfl ?_|refine goX rfl ?_|refine goY rfl ?_)
      refine run_loopF rfl ?_
      exact key 0
    · repeat' (first|refine goM rfl ?_|refine goR rfl ?_|refine goX rfl ?_)
      simp only [List.length_map]
      (first | refine mid_gdT rfl rfl (fun hk => ?_) (fun hk => ?_) | refine mid_gdF rfl rfl (fun hk => ?_) (fun hk => ?_) | refine run_cnd rfl (fun hk => ?_) (fun hk => ?_)) <;> try rw [hk]
      · have hk : k < l.length := by simpa using hk
        rw [allI_drop _ l hk]
        have h9' : decide ((l.length : Int) ≤ 9) = true := by simp; omega
        repeat' (first|refine goM rfl ?_|refine goY rfl ?_)
        simp only [List.length_map, h9']
        repeat' (first|refine goM rfl ?_|refine goR rfl ?_|refine goX rfl ?_|refine goY rfl ?_|refine goC (l15Ok_ok l k hk h9) rfl rfl rfl rfl ?_)
        (first | refine mid_gdT rfl rfl (fun hb => ?_) (fun hb => ?_) | refine mid_gdF rfl rfl (fun hb => ?_) (fun hb => ?_) | refine run_cnd rfl (fun hb => ?_) (fun hb => ?_)) <;> try rw [hb]
        · repeat' (first|refine goM rfl ?_|refine goR rfl ?_|refine goX rfl ?_|refine goY rfl ?_)
          (first|refine run_ret rfl ?_|refine run_done rfl ?_)
          simp only [Bool.not_eq_true'] at hb
          simp [hb]
        · repeat' (first|refine goM rfl ?_|refine goR rfl ?_|refine goX rfl ?_|refine goY rfl ?_)
          refine run_backF rfl ?_
          rw [wsucc (by omega)]
          simp only [Bool.not_eq_false'] at hb
          rw [hb, Bool.true_and]
          exact ih hk
      · have hk : ¬ k < l.length := by simpa using hk
        repeat' (first|refine goM rfl ?_|refine goR rfl ?_|refine goX rfl ?_|refine goY rfl ?_|refine goC (l1In_ok _ _ _) rfl rfl rfl rfl ?_)
        simp only [List.length_map]
        (first|refine run_ret rfl ?_|refine run_done rfl ?_)
        rw [allI_nil _ l hk, Bool.and_true]
  · have e : isPlay l = false := by simp [isPlay, inR]; omega
    rw [e]
    repeat' (first|refine goM rfl ?_|refine goR rfl ?_|refine goX rfl ?_|refine goY rfl ?_)
    refine run_loopF rfl ?_
    repeat' (first|refine goM rfl ?_|refine goR rfl ?_|refine goX rfl ?_)
    simp only [List.length_map]
    rw [show decide ((0 : Int) < (l.length : Int)) = true by simp; omega]
    repeat' (first|refine goM rfl ?_|refine goY rfl ?_)
    simp only [List.length_map]
    rw [show decide ((l.length : Int) ≤ 9) = false by simp; omega]
    repeat' (first|refine goM rfl ?_|refine goR rfl ?_|refine goX rfl ?_|refine goY rfl ?_|refine goC (l1In_ok _ _ _) rfl rfl rfl rfl ?_)
    (first|refine run_ret rfl ?_|refine run_done rfl ?_)
    simp [inR]; omega
theorem IsPlay_ok (l : List Stp) (hl : l.length ≤ 1048576) : CallsOK PP F_impl_IsPlay [.v (dStps l)] [.v (.bool (isPlay l))] := by
  refine S_impl_IsPlay rfl (Nat.le_of_ble_eq_true rfl) ?_
  repeat' (first|refine goM rfl ?_|refine goR rfl ?_|refine goX rfl ?_|refine goY rfl ?_|refine goC (InRange_ok _ _ _) rfl rfl rfl rfl ?_)
  simp only [List.length_map]
  (first | refine mid_gdT rfl rfl (fun h9 => ?_) (fun h9 => ?_) | refine mid_gdF rfl rfl (fun h9 => ?_) (fun h9 => ?_) | refine run_cnd rfl (fun h9 => ?_) (fun h9 => ?_)) <;> try rw [h9]
  · repeat' (first|refine goM rfl ?_|refine goR rfl ?_|refine goX rfl ?_|refine goY rfl ?_)
    (first|refine run_ret rfl ?_|refine run_done rfl ?_)
    simp only [Bool.not_eq_true'] at h9
    simp [isPlay, h9]
  · simp only [Bool.not_eq_false'] at h9
    have key : ∀ k : Nat, L_impl_IsPlay_0 PP [(0, .v (dStps l)), (9, .v (dStps l)), (10, .v (.int .i64 l.length)), (11, .v (.int .i64 k))] [.v (.bool (allI (stepOk l) (l.drop k) k))] := up l.length (fun k ih => ?_)
    · repeat' (first|refine goM rfl ?_|refine goR rfl ?_|refine goX rfl ?_|refine goY rfl ?_)
      simp only [List.length_map]
      refine run_loopF rfl ?_
      simp only [isPlay, h9, Bool.true_and]
      exact key 0
    · repeat' (first|refine goM rfl ?_|refine goR rfl ?_|refine goX rfl ?_|refine goY rfl ?_)
      refine run_cnd_lt rfl (fun hk => ?_) (fun hk => ?_)
      · rw [allI_drop _ l hk]
        have hkl : k < 9 := by simp only [inR, Bool.and_eq_true, decide_eq_true_eq] at h9; omega
        have ih := ih hk
        rw [← wsucc (show k < 9223372036854775807 by omega)] at ih
        generalize hx : l[k] = x
        rename_i ih0
        clear ih0
        repeat' (first|refine mid_idxm rfl rfl hk rfl ?_|refine goM rfl ?_|refine goR rfl ?_|refine goX rfl ?_|refine goY rfl ?_)
        rw [hx]
        simp only [rStp]
        repeat' (first|refine mid_idxj rfl rfl (by simp only [Bool.not_eq_false', inI, Bool.and_eq_true, decide_eq_true_eq] at *; omega) rfl ?_|refine goM rfl ?_|refine goR rfl ?_|refine goX rfl ?_|refine goY rfl ?_|refine goC (InRange_ok _ _ _) rfl rfl rfl rfl ?_|refine goC (IsWord_ok _) rfl rfl rfl rfl ?_|refine goC (at_ok _ _) rfl rfl rfl rfl ?_|refine goC (needsWord_ok _) rfl rfl rfl rfl ?_|refine goC (isPair_ok _) rfl rfl rfl rfl ?_|(refine mid_gdT rfl rfl (fun hb => ?_) (fun hb => ?_) <;> try rw [hb])|(refine mid_gdF rfl rfl (fun hb => ?_) (fun hb => ?_) <;> try rw [hb])|(refine run_cnd rfl (fun hb => ?_) (fun hb => ?_) <;> try rw [hb]))
        all_goals first
          | (refine run_ret rfl ?_; clear ih; clear hx; simp_all [stepOk, inI, rStp]; done)
          | (refine run_backF rfl ?_; refine Eq.mp ?_ ih; congr 3; clear ih; clear hx; simp_all [stepOk, inI, rStp]; done)
          | (refine run_ret rfl ?_; clear ih; clear hx; simp_all [stepOk, inI, rStp]; intros; omega)
      · repeat' (first|refine goM rfl ?_|refine goR rfl ?_|refine goX rfl ?_|refine goY rfl ?_)
        (first|refine run_ret rfl ?_|refine run_done rfl ?_)
        rw [allI_nil _ l hk]
theorem IsClue_ok (c : Clu) (hl : c.play.length ≤ 1048576) : CallsOK PP F_impl_IsClue [.agg (rClu c)] [.v (.bool (isClue c))] := by
  refine S_impl_IsClue rfl (Nat.le_of_ble_eq_true rfl) ?_
  simp only [rClu]
  repeat' (first|refine goM rfl ?_|refine goR rfl ?_|refine goX rfl ?_|refine goY rfl ?_|refine goC (InRange_ok _ _ _) rfl rfl rfl rfl ?_|refine goC (IsPlay_ok c.play hl) rfl rfl rfl rfl ?_|(refine mid_gdT rfl rfl (fun hb => ?_) (fun hb => ?_) <;> try rw [hb]))
  all_goals (first|refine run_ret rfl ?_|refine run_done rfl ?_)
  all_goals simp [isClue, hb]
theorem IsClue_ok' (c : Clu) (hl : c.play.length ≤ 1048576) : CallsOK PP F_spec_IsClue [.agg (rClu c)] [.v (.bool (isClue c))] := by
  refine S_spec_IsClue rfl (Nat.le_of_ble_eq_true rfl) ?_
  simp only [rClu]
  repeat' (first|refine goM rfl ?_|refine goR rfl ?_|refine goX rfl ?_|refine goY rfl ?_|refine goC (l1In_ok _ _ _) rfl rfl rfl rfl ?_|refine goC (IsPlay_ok' c.play hl) rfl rfl rfl rfl ?_|(refine mid_gdT rfl rfl (fun hb => ?_) (fun hb => ?_) <;> try rw [hb]))
  all_goals (first|refine run_ret rfl ?_|refine run_done rfl ?_)
  all_goals simp [isClue, hb]
end Go.Rd

namespace Go.Rd
open Go.Proofs
set_option linter.unusedSimpArgs false
set_option linter.unusedVariables false
set_option maxRecDepth 10000
set_option maxHeartbeats 4000000
theorem slotsGo_mem (g : Grd) (s : Slt) : ∀ f i n, s ∈ slotsGo g f i n → ∃ j : Nat, i ≤ j ∧ j < i + f ∧ s.cell = j ∧ s.len = runN g j s.down ∧ 2 ≤ runN g j s.down
  | 0, i, n, h => by simp [slotsGo] at h
  | f + 1, i, n, h => by
    rw [slotsGo_succ, List.mem_append] at h
    rcases h with h | h
    · simp only [slotsHere, List.mem_append] at h
      rcases h with h | h
      · split at h
        · rename_i h2; simp only [List.mem_singleton] at h; subst h; exact ⟨i, Nat.le_refl _, by omega, rfl, rfl, h2⟩
        · simp at h
      · split at h
        · rename_i h2; simp only [List.mem_singleton] at h; subst h; exact ⟨i, Nat.le_refl _, by omega, rfl, rfl, h2⟩
        · simp at h
    · obtain ⟨j, h1, h2, h3⟩ := slotsGo_mem g s f (i + 1) _ h
      exact ⟨j, by omega, by omega, h3⟩
theorem slotsGo_nodup (g : Grd) : ∀ f i n, (slotsGo g f i n).Nodup
  | 0, i, n => by simp [slotsGo]
  | f + 1, i, n => by
    rw [slotsGo_succ, List.nodup_append]
    refine ⟨?_, slotsGo_nodup g f (i + 1) _, fun a ha b hb e => ?_⟩
    · simp only [slotsHere]
      by_cases h1 : 2 ≤ runN g i false <;> by_cases h2 : 2 ≤ runN g i true <;> simp [h1, h2]
    · subst e
      obtain ⟨j, h1, h2, h3, _⟩ := slotsGo_mem g a f (i + 1) _ hb
      simp only [slotsHere, List.mem_append] at ha
      have hc : a.cell = i := by
        rcases ha with ha | ha <;> split at ha <;> simp at ha <;> rw [ha]
      omega
theorem slots_nodup (g : Grd) : (slotsOf g).Nodup := by
  unfold slotsOf; split
  · exact slotsGo_nodup g _ _ _
  · exact List.nodup_nil
theorem slots_len (g : Grd) : (slotsOf g).length ≤ 72 := by
  unfold slotsOf; split
  · rename_i h
    obtain ⟨R, C, hr, hc, hR, hC, r2, r6, c2, c6, hlen, h36⟩ := grid_nat h
    have := slotsGo_len g g.cells.length 0 0; omega
  · simp
theorem countW_le (g : Grd) (st : Nat) : ∀ f j, countW g st f j ≤ f
  | 0, j => by simp [countW]
  | f + 1, j => by simp only [countW]; split; have := countW_le g st f (j + st); omega; omega
theorem slot_mem {g : Grd} {s : Slt} (h : s ∈ slotsOf g) : isGrid g = true ∧ ∃ i n : Nat, s.cell = i ∧ s.len = n ∧ i < 36 ∧ 2 ≤ n ∧ n ≤ 6 ∧ ∀ k, k < n → i + k * (if s.down then g.C else 1) < g.cells.length := by
  have hg : isGrid g = true := by
    unfold slotsOf at h; split at h
    · assumption
    · simp at h
  refine ⟨hg, ?_⟩
  obtain ⟨R, C, hr, hc, hR, hC, r2, r6, c2, c6, hlen, h36⟩ := grid_nat hg
  simp only [slotsOf, hg, if_true] at h
  obtain ⟨i, _, hi, h1, h2, h3⟩ := slotsGo_mem g s _ _ _ h
  have h6 := runN_le g i s.down (by omega) (by omega)
  refine ⟨i, runN g i s.down, h1, h2, by omega, h3, h6, fun k hk => ?_⟩
  have hle : runN g i s.down ≤ (if s.down then R else C) - (if s.down then i / C else i % C) := by
    rw [runN_at hR hC]
    generalize (!g.white i || _) = b
    cases b
    · exact countW_le _ _ _ _
    · exact Nat.zero_le _
  have hmod : i % C < C := Nat.mod_lt _ (by omega)
  have hdiv : i / C < R := Nat.div_lt_of_lt_mul (by rw [Nat.mul_comm]; omega)
  have hdm := Nat.div_add_mod i C
  cases hd : s.down <;> simp only [hd, if_true, if_false, Bool.false_eq_true] at hk hle ⊢
  · have h1 : C * (i / C) + C ≤ C * R := by have := Nat.mul_le_mul_left C (show i / C + 1 ≤ R from hdiv); rw [Nat.mul_add, Nat.mul_one] at this; exact this
    rw [hlen, Nat.mul_comm R C]; omega
  · have h1 : C * (i / C + k + 1) ≤ C * R := Nat.mul_le_mul_left C (show i / C + k + 1 ≤ R by omega)
    rw [Nat.mul_add, Nat.mul_add, Nat.mul_one] at h1
    rw [hlen, hC, Nat.mul_comm R C, Nat.mul_comm k C]; omega
theorem slt_eq (a s : Slt) : (a.number == s.number && (a.down == s.down && (a.cell == s.cell && (a.len == s.len && true)))) = decide (a = s) := by
  by_cases h : a = s
  · subst h; simp
  · rw [decide_eq_false h]
    cases hh : (a.number == s.number && (a.down == s.down && (a.cell == s.cell && (a.len == s.len && true))))
    · rfl
    · exfalso; apply h
      simp only [Bool.and_eq_true, beq_iff_eq, Bool.and_true] at hh
      cases a; cases s; simp_all
theorem cells_len (g : Grd) (s : Slt) : (cellsOf g s).length = s.len.toNat := by simp [cellsOf]
def cellsTo (g : Grd) (s : Slt) (k : Nat) : List Int := (List.range k).map fun (k : Nat) => s.cell + k * (if s.down then g.cols else 1)
theorem cellsTo_succ (g : Grd) (s : Slt) (k : Nat) : cellsTo g s (k + 1) = cellsTo g s k ++ [s.cell + k * (if s.down then g.cols else 1)] := by
  simp [cellsTo, List.range_succ]
theorem cells_ok (g : Grd) (s : Slt) (h : s ∈ slotsOf g) : CallsOK PP F_impl_cells [.agg (rGrd g), .agg (rSlt s)] [.own T_int 1 8 ((cellsOf g s).map rI)] := by
  obtain ⟨hg, i, n, h1, h2, h36, _, h6, _⟩ := slot_mem h
  obtain ⟨R, C, hr, hc, hR, hC, r2, r6, c2, c6, hlen, _⟩ := grid_nat hg
  refine S_impl_cells rfl (Nat.le_of_ble_eq_true rfl) ?_
  have hcell : cellsOf g s = cellsTo g s n := by simp only [cellsOf, cellsTo, h2, Int.toNat_natCast]
  rw [hcell]
  have key : ∀ k : Nat, k ≤ n → ∀ st : Int, st = (if s.down then g.cols else 1) → L_impl_cells_0 PP [(3, .box (rSlt s)), (5, .v (.int .i64 st)), (6, .own T_int 1 8 ((cellsTo g s k).map rI)), (13, .v (.int .i64 n)), (14, .v (.int .i64 k))] [.own T_int 1 8 ((cellsTo g s n).map rI)] := up n (fun k ih hk0 st hst => ?_)
  · simp only [rSlt, rGrd]
    repeat' (first|refine goM rfl ?_|refine goR rfl ?_|refine goX rfl ?_|refine goY rfl ?_)
    cases hd : s.down
    · repeat' (first|refine goM rfl ?_|refine goR rfl ?_|refine goX rfl ?_|refine goY rfl ?_)
      rw [h2]
      refine run_loopF rfl ?_
      have := key 0 (by omega) 1 (by simp [hd])
      simp only [rSlt, hd, h2] at this
      exact this
    · repeat' (first|refine goM rfl ?_|refine goR rfl ?_|refine goX rfl ?_|refine goY rfl ?_)
      rw [h2]
      refine run_loopF rfl ?_
      have := key 0 (by omega) g.cols (by simp [hd])
      simp only [rSlt, hd, h2] at this
      exact this
  · have hst1 : 1 ≤ st ∧ st ≤ 6 := by rw [hst]; split <;> omega
    repeat' (first|refine goM rfl ?_|refine goR rfl ?_|refine goX rfl ?_|refine goY rfl ?_)
    refine run_cnd_lt rfl (fun hk => ?_) (fun hk => ?_)
    · have ih := ih hk (by omega) st hst
      have hcl : (cellsTo g s k).length = k := by simp [cellsTo]
      have hks : (k : Int) * st ≤ 36 ∧ 0 ≤ (k : Int) * st := by
        have h5 := Int.mul_le_mul (show (k : Int) ≤ 6 by omega) hst1.2 (by omega) (by omega)
        have h7 := Int.mul_nonneg (show (0 : Int) ≤ k by omega) (show 0 ≤ st by omega)
        omega
      repeat' (first|refine mid_app rfl rfl rfl (by decide) rfl (by simp [hcl]; omega) (by simp [hcl]; omega) ?_|refine goM rfl ?_|refine goR rfl ?_|refine goX rfl ?_|refine goY rfl ?_)
      refine run_backF rfl ?_
      rw [wsucc (by omega)]
      rw [cellsTo_succ, List.map_append, ← hst] at ih
      rw [w64 (x := (k : Int) * st) (by omega) (by omega), h1, w64 (by omega) (by omega), ← h1]
      exact ih
    · repeat' (first|refine goM rfl ?_|refine goR rfl ?_|refine goX rfl ?_|refine goY rfl ?_)
      (first|refine run_ret rfl ?_|refine run_done rfl ?_)
      rw [show k = n by omega]
theorem CellsOf_ok' (g : Grd) (s : Slt) (h : s ∈ slotsOf g) : CallsOK PP F_spec_CellsOf [.agg (rGrd g), .agg (rSlt s)] [.own T_int 1 8 ((cellsOf g s).map rI)] := by
  obtain ⟨hg, i, n, h1, h2, h36, _, h6, _⟩ := slot_mem h
  obtain ⟨R, C, hr, hc, hR, hC, r2, r6, c2, c6, hlen, _⟩ := grid_nat hg
  refine S_spec_CellsOf rfl (Nat.le_of_ble_eq_true rfl) ?_
  have hcell : cellsOf g s = cellsTo g s n := by simp only [cellsOf, cellsTo, h2, Int.toNat_natCast]
  rw [hcell]
  have hsl := slots_len g
  have hnd := slots_nodup g
  generalize hl : slotsOf g = l at h hsl hnd
  have key : ∀ k : Nat, k ≤ l.length → L_spec_CellsOf_0 PP [(2, .box (rGrd g)), (3, .box (rSlt s)), (5, .own T_int 1 8 ((if s ∈ l.take k then cellsTo g s n else []).map rI)), (6, .v (dSlts l)), (7, .v (.int .i64 k))] [.own T_int 1 8 ((cellsTo g s n).map rI)] := up l.length (fun k ih hk0 => ?_)
  · repeat' (first|refine goM rfl ?_|refine goR rfl ?_|refine goX rfl ?_|refine goY rfl ?_|refine goC (SlotsOf_ok' g (by omega)) rfl rfl rfl rfl ?_)
    rw [hl]
    refine run_loopF rfl ?_
    have := key 0 (by omega)
    simp only [List.take_zero, List.not_mem_nil, if_false] at this
    exact this
  · simp only [rSlt, rGrd]
    repeat' (first|refine goM rfl ?_|refine goR rfl ?_|refine goX rfl ?_|refine goY rfl ?_)
    simp only [List.length_map]
    refine run_cnd_lt rfl (fun hk => ?_) (fun hk => ?_)
    · have ih := ih hk (by omega)
      rw [List.take_succ_eq_append_getElem hk] at ih
      simp only [List.mem_append, List.mem_singleton] at ih
      repeat' (first|refine mid_idxm rfl rfl hk rfl ?_|refine goM rfl ?_|refine goR rfl ?_|refine goX rfl ?_|refine goY rfl ?_)
      (first | refine mid_gdT rfl rfl (fun he => ?_) (fun he => ?_) | refine mid_gdF rfl rfl (fun he => ?_) (fun he => ?_) | refine run_cnd rfl (fun he => ?_) (fun he => ?_)) <;> try rw [he]
      · have he' : ¬ s = l[k] := by
          have : (l[k].number == s.number && (l[k].down == s.down && (l[k].cell == s.cell && (l[k].len == s.len && true)))) = false := by
            change (!(l[k].number == s.number && (l[k].down == s.down && (l[k].cell == s.cell && (l[k].len == s.len && true))))) = true at he
            simpa only [Bool.not_eq_true'] using he
          rw [slt_eq] at this
          exact fun e => of_decide_eq_false this e.symm
        simp only [he', or_false] at ih
        repeat' (first|refine goM rfl ?_|refine goR rfl ?_|refine goX rfl ?_|refine goY rfl ?_)
        refine run_backF rfl ?_
        rw [wsucc (by omega)]
        exact ih
      · have he' : s = l[k] := by
          have : (l[k].number == s.number && (l[k].down == s.down && (l[k].cell == s.cell && (l[k].len == s.len && true)))) = true := by
            change (!(l[k].number == s.number && (l[k].down == s.down && (l[k].cell == s.cell && (l[k].len == s.len && true))))) = false at he
            simpa only [Bool.not_eq_false'] using he
          rw [slt_eq] at this
          exact (of_decide_eq_true this).symm
        have hnot : ¬ s ∈ l.take k := by
          intro hm
          rw [he'] at hm
          obtain ⟨j, hj, e⟩ := List.getElem_of_mem hm
          rw [List.getElem_take] at e
          have hj' : j < k := by have := List.length_take_le k l; omega
          have := nodup_idx hnd (i := j) (j := k) (List.getElem?_eq_getElem (by omega)) (by rw [List.getElem?_eq_getElem hk, e])
          omega
        rw [if_pos (.inr he')] at ih
        simp only [hnot, if_false, List.map_nil]
        have key2 : ∀ m : Nat, m ≤ n → L_spec_CellsOf_1 PP [(2, .box (rGrd g)), (3, .box (rSlt s)), (5, .own T_int 1 8 ((cellsTo g s m).map rI)), (6, .v (dSlts l)), (7, .v (.int .i64 k)), (8, .v (.int .i64 m))] [.own T_int 1 8 ((cellsTo g s n).map rI)] := up n (fun m ih2 hm0 => ?_)
        · repeat' (first|refine goM rfl ?_|refine goR rfl ?_|refine goX rfl ?_|refine goY rfl ?_)
          refine run_loopF rfl ?_
          exact key2 0 (by omega)
        · have hcl : (cellsTo g s m).length = m := by simp [cellsTo]
          simp only [rSlt, rGrd]
          repeat' (first|refine goM rfl ?_|refine goR rfl ?_|refine goX rfl ?_|refine goY rfl ?_)
          rw [h2]
          refine run_cnd_lt rfl (fun hm => ?_) (fun hm => ?_)
          · have ih2 := ih2 hm (by omega)
            rw [cellsTo_succ, List.map_append] at ih2
            have hks : (m : Int) * g.cols ≤ 36 ∧ 0 ≤ (m : Int) * g.cols := by
              have h5 := Int.mul_le_mul (show (m : Int) ≤ 6 by omega) (show g.cols ≤ 6 by omega) (by omega) (by omega)
              have h7 := Int.mul_nonneg (show (0 : Int) ≤ m by omega) (show 0 ≤ g.cols by omega)
              omega
            repeat' (first|refine goM rfl ?_|refine goR rfl ?_|refine goX rfl ?_|refine goY rfl ?_)
            cases hd : s.down
            · repeat' (first|refine mid_app rfl rfl rfl (by decide) rfl (by simp [hcl]; omega) (by simp [hcl]; omega) ?_|refine goM rfl ?_|refine goR rfl ?_|refine goX rfl ?_|refine goY rfl ?_)
              refine run_backF rfl ?_
              simp only [rSlt, rGrd, hd, h2, Bool.false_eq_true, if_false, Int.mul_one] at ih2
              rw [wsucc (by omega), h1, w64 (by omega) (by omega), ← h1]
              exact ih2
            · repeat' (first|refine mid_app rfl rfl rfl (by decide) rfl (by simp [hcl]; omega) (by simp [hcl]; omega) ?_|refine goM rfl ?_|refine goR rfl ?_|refine goX rfl ?_|refine goY rfl ?_)
              refine run_backF rfl ?_
              simp only [rSlt, rGrd, hd, h2, if_true] at ih2
              rw [wsucc (by omega), w64 (x := (m : Int) * g.cols) (by omega) (by omega), h1, w64 (by omega) (by omega), ← h1]
              exact ih2
          · repeat' (first|refine goM rfl ?_|refine goR rfl ?_|refine goX rfl ?_|refine goY rfl ?_)
            refine run_backF rfl ?_
            simp only [rSlt, rGrd, h2] at ih ⊢
            rw [wsucc (by omega), show m = n by omega]
            exact ih
    · repeat' (first|refine goM rfl ?_|refine goR rfl ?_|refine goX rfl ?_|refine goY rfl ?_)
      (first|refine run_ret rfl ?_|refine run_done rfl ?_)
      rw [List.take_of_length_le (by omega), if_pos h]
end Go.Rd
