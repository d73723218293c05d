import Derived.Test.YtkdgipcfodmceaaGreatTextsA
import Derived.Test.YtkdgipcfodmceaaGreatTextsB
/- Contracts of the functions that the law reaches. No condition. -/
namespace Go.Rd

/-- A byte as the program sees it. -/
abbrev cv (c : UInt8) : Int := (c.toNat : Int)
def inR (n a b : Int) : Bool := decide (a ≤ n) && decide (n ≤ b)
def isL (c : UInt8) : Bool := decide (97 ≤ cv c) && decide (cv c ≤ 122)
def isWord (s : Str) : Bool := inR s.length 1 8 && s.all isL
def isCell (c : UInt8) : Bool := cv c == 35 || cv c == 46
def isGrid (g : Grd) : Bool := inR g.rows 2 6 && inR g.cols 2 6 && ((g.cells.length : Int) == g.rows * g.cols) && g.cells.all isCell

def Grd.C (g : Grd) : Nat := g.cols.toNat
def Grd.R (g : Grd) : Nat := g.rows.toNat
def Grd.at (g : Grd) (i : Nat) : UInt8 := g.cells.getD i 0
def Grd.white (g : Grd) (i : Nat) : Bool := cv (g.at i) == 46

/-- How many white cells lie from i on, a step apart, f at most. -/
def countW (g : Grd) (step : Nat) : Nat → Nat → Nat
  | 0, _ => 0
  | f + 1, i => if g.white i then countW g step f (i + step) + 1 else 0
def runN (g : Grd) (i : Nat) (down : Bool) : Nat :=
  let step := if down then g.C else 1
  let place := if down then i / g.C else i % g.C
  let most := if down then g.R else g.C
  if !g.white i || (decide (0 < place) && g.white (i - step)) then 0 else countW g step (most - place) i

def slotsGo (g : Grd) : Nat → Nat → Nat → List Slt
  | 0, _, _ => []
  | f + 1, i, n =>
    let a := runN g i false
    let d := runN g i true
    let n' := if decide (2 ≤ a) || decide (2 ≤ d) then n + 1 else n
    (if 2 ≤ a then [⟨n', false, i, a⟩] else []) ++ ((if 2 ≤ d then [⟨n', true, i, d⟩] else []) ++ slotsGo g f (i + 1) n')
def slotsOf (g : Grd) : List Slt := if isGrid g then slotsGo g g.cells.length 0 0 else []

/-- A slot's cells. -/
def cellsOf (g : Grd) (s : Slt) : List Int := (List.range s.len.toNat).map fun (k : Nat) => s.cell + k * (if s.down then g.cols else 1)
def layout (g : Grd) : List (List Int) := (slotsOf g).map (cellsOf g)
def slotsAtGo (cell : Int) : List (List Int) → Nat → List Int
  | [], _ => []
  | l :: ls, i => (if l.contains cell then [(i : Int)] else []) ++ slotsAtGo cell ls (i + 1)
def slotsAt (g : Grd) (cell : Int) : List Int := slotsAtGo cell (layout g) 0
def isChecked (g : Grd) (cell : Int) : Bool := (slotsAt g cell).length == 2
def uncheckedIn (g : Grd) (slot : Nat) : Nat := (((layout g).getD slot []).filter fun c => !isChecked g c).length

def isFill (g : Grd) (f : Str) : Bool := isGrid g && (f.length == g.cells.length) && (f.zip g.cells).all fun p => (cv p.2 == 35 && cv p.1 == 35) || (cv p.2 == 46 && (cv p.1 == 63 || isL p.1))
def emptyFill (g : Grd) : Str := if isGrid g then g.cells.map fun c => if cv c == 35 then 35 else 63 else []
def openIn (s : Str) : Bool := s.any fun c => cv c == 63
def readCells (f : Str) (l : List Int) : Str := l.map fun c => f.getD c.toNat 0
def patterns (g : Grd) (f : Str) : List Str := if isFill g f then (layout g).map (readCells f) else []
def slotPattern (g : Grd) (f : Str) (slot : Int) : Str := if 0 ≤ slot then (patterns g f).getD slot.toNat [] else []
def isFull (g : Grd) (f : Str) : Bool := isFill g f && !openIn f

def sealMod (n : Int) : Int := (n.tmod 2147483647 + 2147483647).tmod 2147483647
def hashStep (d n : Int) : Int := (IntKind.i64.wrap (IntKind.i64.wrap (IntKind.i64.wrap (d * 1000003) + sealMod n) + 13)).tmod 2147483647
def hash (l : List Int) : Int := l.foldl hashStep 11
def lettersOf (w : Str) : List Int := w.map cv
def sealAnswer (salt slot : Int) (w : Str) : Int := if isWord w then hash ([salt, slot, (w.length : Int)] ++ lettersOf w) else 0
def checksAnswer (seals : List Int) (salt slot : Int) (w : Str) : Bool := decide (0 ≤ slot) && decide (slot < seals.length) && isWord w && (sealAnswer salt slot w == seals.getD slot.toNat 0)
def rightGo (seals : List Int) (salt : Int) : List Str → Nat → List Int
  | [], _ => []
  | w :: ws, i => (if checksAnswer seals salt i w then [(i : Int)] else []) ++ rightGo seals salt ws (i + 1)
def rightSlots (g : Grd) (f : Str) (seals : List Int) (salt : Int) : List Int := rightGo seals salt (patterns g f) 0
end Go.Rd

namespace Go.Rd

/-- All elements, with their places. -/
def allI {α : Type} (f : Nat → α → Bool) : List α → Nat → Bool
  | [], _ => true
  | x :: xs, i => f i x && allI f xs (i + 1)
/-- Some number from i on, n of them at most. -/
def anyUp (f : Nat → Bool) : Nat → Nat → Bool
  | 0, _ => false
  | n + 1, i => f i || anyUp f n (i + 1)
def inI (a : Int) (n : Nat) : Bool := decide (0 ≤ a) && decide (a < n)

def backwards (s : Str) : Str := if s.length ≤ 100 then s.reverse else []
def sortL (s : Str) : Str := (List.range 26).flatMap fun c => s.filter fun x => x.toNat == 97 + c
def sortLetters (s : Str) : Str := if isWord s then sortL s else []
def isRearr (a b : Str) : Bool := isWord a && isWord b && !(a == b) && (sortLetters a == sortLetters b)
def headOf (w : Str) : Str := if isWord w then w.take 1 else []
def noHead (w : Str) : Str := if isWord w then w.drop 1 else []
def noTail (w : Str) : Str := if isWord w then w.take (w.length - 1) else []
def isInside (p w : Str) : Bool := isWord p && isWord w && anyUp (fun i => (w.drop i).take p.length == p) (w.length - p.length - 1) 1

def needsWord (k : Int) : Bool := k == 3 || decide (6 ≤ k)
def isPair (k : Int) : Bool := k == 4 || k == 5
def stepOk (l : List Stp) (i : Nat) (x : Stp) : Bool :=
  inR x.kind 1 9 && (if x.kind == 1 then isWord x.word && x.a == 0 && x.b == 0
    else x.word == [] && inI x.a i && (!needsWord x.kind || (l.getD x.a.toNat default).kind == 1) && (if isPair x.kind then inI x.b i else x.b == 0))
def isPlay (l : List Stp) : Bool := inR l.length 1 9 && allI (stepOk l) l 0
def makesF (l : List Stp) : Nat → Nat → Str → Bool
  | 0, _, _ => false
  | n + 1, i, s =>
    let x := l.getD i default
    let a := x.a.toNat
    let b := x.b.toNat
    let w := (l.getD a default).word
    if x.kind == 1 then s == x.word
    else if x.kind == 2 then makesF l n a (backwards s)
    else if x.kind == 3 then isRearr w s
    else if x.kind == 4 then anyUp (fun k => makesF l n a (s.take k) && makesF l n b (s.drop k)) (s.length - 1) 1
    else if x.kind == 5 then anyUp (fun i => anyUp (fun j => makesF l n b ((s.take j).drop i) && makesF l n a (s.take i ++ s.drop j)) (s.length - (i + 1)) (i + 1)) (s.length - 1) 1
    else if x.kind == 6 then s == headOf w
    else if x.kind == 7 then s == noHead w
    else if x.kind == 8 then s == noTail w
    else isInside s w
def makes (l : List Stp) (s : Str) : Bool := isPlay l && isWord s && makesF l l.length (l.length - 1) s

def hasSense (d : List Mea) (w : Str) (n : Int) : Bool := d.any fun m => m.word == w && m.sense == n
def isClue (c : Clu) : Bool := inR c.sense 1 99 && isPlay c.play
def fitsClue (c : Clu) (d : List Mea) (w : Str) : Bool := isClue c && hasSense d w c.sense && makes c.play w

def turnG (g : Grd) : Grd := if isGrid g then ⟨g.rows, g.cols, backwards g.cells⟩ else ⟨0, 0, []⟩
def isSym (g : Grd) : Bool := isGrid g && (g.cells == g.cells.reverse)

/-- White cells side by side. -/
def Grd.near (g : Grd) (i j : Nat) : Prop :=
  g.white i = true ∧ g.white j = true ∧ ((i / g.C = j / g.C ∧ (i + 1 = j ∨ j + 1 = i)) ∨ i + g.C = j ∨ j + g.C = i)
inductive Grd.Reach (g : Grd) : Nat → Nat → Prop
  | refl {i : Nat} : g.Reach i i
  | step {i j k : Nat} : g.Reach i j → g.near j k → g.Reach i k
open Classical in
/-- How many white cells there are that no white cell before them reaches. -/
noncomputable def partsOf (g : Grd) : Nat :=
  if isGrid g then ((List.range g.cells.length).filter fun i => g.white i && decide (∀ j, j < i → g.white j = true → ¬ g.Reach j i)).length else 0

def aloneIn (g : Grd) (f : Str) : Bool := (List.range g.cells.length).any fun c => g.white c && (slotsAt g c == []) && !isL (f.getD c 0)
def crowded (g : Grd) : Bool := allI (fun i (s : Slt) => !decide (2 * (uncheckedIn g i : Int) > s.len)) (slotsOf g) 0
noncomputable def formOf (g : Grd) : Int :=
  if !isGrid g then 1 else if !isSym g then 2 else if !(partsOf g == 1) then 3
  else if (slotsOf g).any (fun s => decide (s.len < 3)) then 4 else if !crowded g || aloneIn g g.cells then 5 else 0

noncomputable def isPuzzle (p : Puz) : Bool := formOf p.grid == 0 && (p.clues.length == (slotsOf p.grid).length) && (p.seals.length == (slotsOf p.grid).length) && inR p.salt 1 9999 && p.clues.all isClue
noncomputable def isSolved (p : Puz) (f : Str) : Bool := isPuzzle p && isFull p.grid f && ((rightSlots p.grid f p.seals p.salt).length == p.seals.length)
noncomputable def isIssue (x : Iss) : Bool := inR x.number 1 999 && isSolved x.puz x.fill && decide (0 ≤ x.op) && decide (x.op < x.cl) && decide (x.cl ≤ 1000)
def areCors (l : List Cor) : Bool := decide (l.length ≤ 12) && allI (fun i x => inR x.issue 1 999 && inR x.slot 0 99 && isClue x.clue && inR x.tick 0 1000 && (i == 0 || decide ((l.getD (i - 1) default).tick ≤ x.tick))) l 0
def corStep (x : Iss) (t : Int) (cs : List Clu) (c : Cor) : List Clu := if c.issue == x.number && decide (c.tick ≤ t) && decide (c.slot < cs.length) then cs.set c.slot.toNat c.clue else cs
noncomputable def puzzleAt (x : Iss) (l : List Cor) (t : Int) : Puz := if isIssue x && areCors l then ⟨x.puz.grid, l.foldl (corStep x t) x.puz.clues, x.puz.seals, x.puz.salt⟩ else ⟨⟨0, 0, []⟩, [], [], 0⟩
noncomputable def areFitting (h : Hou) : Bool := h.issues.all fun x => allI (fun i _ => decide (i < (puzzleAt x h.cors h.now).clues.length) && fitsClue ((puzzleAt x h.cors h.now).clues.getD i default) h.dict (slotPattern x.puz.grid x.fill i)) x.puz.clues 0

theorem allI_drop {α : Type} (f : Nat → α → Bool) (l : List α) {k : Nat} (h : k < l.length) : allI f (l.drop k) k = (f k l[k] && allI f (l.drop (k + 1)) (k + 1)) := by
  rw [List.drop_eq_getElem_cons h]; rfl
theorem allI_nil {α : Type} (f : Nat → α → Bool) (l : List α) {k : Nat} (h : ¬ k < l.length) : allI f (l.drop k) k = true := by
  rw [List.drop_eq_nil_of_le (by omega)]; rfl
theorem any_drop {α : Type} (p : α → Bool) (l : List α) {k : Nat} (h : k < l.length) : (l.drop k).any p = (p l[k] || (l.drop (k + 1)).any p) := by
  rw [List.drop_eq_getElem_cons h, List.any_cons]
theorem any_drop_nil {α : Type} (p : α → Bool) (l : List α) {k : Nat} (h : ¬ k < l.length) : (l.drop k).any p = false := by
  rw [List.drop_eq_nil_of_le (by omega)]; rfl
theorem anyUp_succ (f : Nat → Bool) {n i : Nat} (h : i < n) : anyUp f (n - i) i = (f i || anyUp f (n - (i + 1)) (i + 1)) := by
  rw [show n - i = (n - (i + 1)) + 1 by omega]; rfl
theorem anyUp_end (f : Nat → Bool) {n i : Nat} (h : ¬ i < n) : anyUp f (n - i) i = false := by
  rw [show n - i = 0 by omega]; rfl
theorem cv_eq {a b : UInt8} : (cv a == cv b) = (a == b) := by
  by_cases h : a = b
  · subst h; simp
  · have : cv a ≠ cv b := fun e => h (UInt8.toNat_inj.1 (by simp only [cv] at e; omega))
    rw [beq_eq_false_iff_ne.2 h, beq_eq_false_iff_ne.2 this]
end Go.Rd

namespace Go.Rd
open Go.Proofs
set_option linter.unusedSimpArgs false
set_option linter.unusedVariables false
set_option maxRecDepth 10000

theorem l1In_ok (n a b : Int) : CallsOK PP F_spec_l1In [.v (.int .i64 n), .v (.int .i64 a), .v (.int .i64 b)] [.v (.bool (inR n a b))] := by
  refine S_spec_l1In rfl (Nat.le_of_ble_eq_true rfl) ?_
  repeat' (first | refine goM rfl ?_ | refine goR rfl ?_ | refine goX rfl ?_ | refine goY rfl ?_ | refine goA rfl ?_ | refine any_run ?_ | refine any_nil (by kernel_rfl) rfl ?_)
  (first | refine mid_gdT rfl rfl (fun hb => ?_) (fun hb => ?_) | refine mid_gdF rfl rfl (fun hb => ?_) (fun hb => ?_) | refine run_cnd rfl (fun hb => ?_) (fun hb => ?_)) <;> try rw [hb]
  all_goals repeat' (first | refine goM rfl ?_ | refine goR rfl ?_ | refine goX rfl ?_ | refine goY rfl ?_ | refine goA rfl ?_ | refine any_run ?_ | refine any_nil (by kernel_rfl) rfl ?_)
  all_goals (first | refine run_ret rfl ?_ | refine run_done rfl ?_)
  all_goals simp [inR, hb]
theorem InRange_ok (n a b : Int) : CallsOK PP F_impl_InRange [.v (.int .i64 n), .v (.int .i64 a), .v (.int .i64 b)] [.v (.bool (inR n a b))] := by
  refine S_impl_InRange rfl (Nat.le_of_ble_eq_true rfl) ?_
  repeat' (first | refine goM rfl ?_ | refine goR rfl ?_ | refine goX rfl ?_ | refine goY rfl ?_ | refine goA rfl ?_ | refine any_run ?_ | refine any_nil (by kernel_rfl) rfl ?_)
  (first | refine mid_gdT rfl rfl (fun hb => ?_) (fun hb => ?_) | refine mid_gdF rfl rfl (fun hb => ?_) (fun hb => ?_) | refine run_cnd rfl (fun hb => ?_) (fun hb => ?_)) <;> try rw [hb]
  all_goals repeat' (first | refine goM rfl ?_ | refine goR rfl ?_ | refine goX rfl ?_ | refine goY rfl ?_ | refine goA rfl ?_ | refine any_run ?_ | refine any_nil (by kernel_rfl) rfl ?_)
  all_goals (first | refine run_ret rfl ?_ | refine run_done rfl ?_)
  all_goals simp [inR, hb]
theorem isLetter_ok (c : Int) : CallsOK PP F_impl_isLetter [.v (.int .u8 c)] [.v (.bool (decide (97 ≤ c) && decide (c ≤ 122)))] := by
  refine S_impl_isLetter rfl (Nat.le_of_ble_eq_true rfl) ?_
  repeat' (first | refine goM rfl ?_ | refine goR rfl ?_ | refine goX rfl ?_ | refine goY rfl ?_ | refine goA rfl ?_ | refine any_run ?_ | refine any_nil (by kernel_rfl) rfl ?_)
  (first | refine mid_gdT rfl rfl (fun hb => ?_) (fun hb => ?_) | refine mid_gdF rfl rfl (fun hb => ?_) (fun hb => ?_) | refine run_cnd rfl (fun hb => ?_) (fun hb => ?_)) <;> try rw [hb]
  all_goals repeat' (first | refine goM rfl ?_ | refine goR rfl ?_ | refine goX rfl ?_ | refine goY rfl ?_ | refine goA rfl ?_ | refine any_run ?_ | refine any_nil (by kernel_rfl) rfl ?_)
  all_goals (first | refine run_ret rfl ?_ | refine run_done rfl ?_)
  all_goals simp [hb]

theorem all_drop {α : Type} (p : α → Bool) (l : List α) {k : Nat} (h : k < l.length) : (l.drop k).all p = (p l[k] && (l.drop (k + 1)).all p) := by
  rw [List.drop_eq_getElem_cons h, List.all_cons]
theorem all_drop_nil {α : Type} (p : α → Bool) (l : List α) {k : Nat} (h : ¬ k < l.length) : (l.drop k).all p = true := by
  rw [List.drop_eq_nil_of_le (by omega)]; rfl

theorem IsWord_ok (s : Str) : CallsOK PP F_impl_IsWord [.v (.str s)] [.v (.bool (isWord s))] := by
  refine S_impl_IsWord rfl (Nat.le_of_ble_eq_true rfl) ?_
  repeat' (first | refine goM rfl ?_ | refine goR rfl ?_ | refine goX rfl ?_ | refine goY rfl ?_ | refine goA rfl ?_ | refine any_run ?_ | refine any_nil (by kernel_rfl) rfl ?_ | refine goC (InRange_ok _ _ _) rfl rfl rfl rfl ?_)
  (first | refine mid_gdT rfl rfl (fun hb => ?_) (fun hb => ?_) | refine mid_gdF rfl rfl (fun hb => ?_) (fun hb => ?_) | refine run_cnd rfl (fun hb => ?_) (fun hb => ?_)) <;> try rw [hb]
  · repeat' (first | refine goM rfl ?_ | refine goR rfl ?_ | refine goX rfl ?_ | refine goY rfl ?_ | refine goA rfl ?_ | refine any_run ?_ | refine any_nil (by kernel_rfl) rfl ?_)
    (first | refine run_ret rfl ?_ | refine run_done rfl ?_)
    simp only [Bool.not_eq_true'] at hb
    simp [isWord, hb]
  · simp only [Bool.not_eq_false'] at hb
    have hl : s.length ≤ 8 := by simp [inR] at hb; omega
    have key : ∀ k : Nat, L_impl_IsWord_0 PP [(0, .v (.str s)), (9, .v (.int .i64 s.length)), (10, .v (.int .i64 k))] [.v (.bool ((s.drop k).all isL))] := up s.length (fun k ih => ?_)
    · repeat' (first | refine goM rfl ?_ | refine goR rfl ?_ | refine goX rfl ?_ | refine goY rfl ?_ | refine goA rfl ?_ | refine any_run ?_ | refine any_nil (by kernel_rfl) rfl ?_)
      refine run_loopF rfl ?_
      have e : isWord s = s.all isL := by simp only [isWord, hb, Bool.true_and]
      rw [e]
      exact key 0
    · repeat' (first | refine goM rfl ?_ | refine goR rfl ?_ | refine goX rfl ?_ | refine goY rfl ?_ | refine goA rfl ?_ | refine any_run ?_ | refine any_nil (by kernel_rfl) rfl ?_)
      refine run_cnd_lt rfl (fun hk => ?_) (fun hk => ?_)
      · repeat' (first | refine mid_sidxs rfl rfl hk rfl ?_ | refine goM rfl ?_ | refine goR rfl ?_ | refine goX rfl ?_ | refine goY rfl ?_ | refine goA rfl ?_ | refine any_run ?_ | refine any_nil (by kernel_rfl) rfl ?_ | refine goC (isLetter_ok _) rfl rfl rfl rfl ?_)
        rw [all_drop isL s hk]
        (first | refine mid_gdT rfl rfl (fun hb => ?_) (fun hb => ?_) | refine mid_gdF rfl rfl (fun hb => ?_) (fun hb => ?_) | refine run_cnd rfl (fun hb => ?_) (fun hb => ?_)) <;> try rw [hb]
        · repeat' (first | refine goM rfl ?_ | refine goR rfl ?_ | refine goX rfl ?_ | refine goY rfl ?_ | refine goA rfl ?_ | refine any_run ?_ | refine any_nil (by kernel_rfl) rfl ?_)
          (first | refine run_ret rfl ?_ | refine run_done rfl ?_)
          simp only [Bool.not_eq_true'] at hb
          rw [show isL s[k] = false from hb]; rfl
        · repeat' (first | refine goM rfl ?_ | refine goR rfl ?_ | refine goX rfl ?_ | refine goY rfl ?_ | refine goA rfl ?_ | refine any_run ?_ | refine any_nil (by kernel_rfl) rfl ?_)
          refine run_backF rfl ?_
          rw [wsucc (by omega)]
          simp only [Bool.not_eq_false'] at hb
          rw [show isL s[k] = true from hb, Bool.true_and]
          exact ih hk
      · repeat' (first | refine goM rfl ?_ | refine goR rfl ?_ | refine goX rfl ?_ | refine goY rfl ?_ | refine goA rfl ?_ | refine any_run ?_ | refine any_nil (by kernel_rfl) rfl ?_)
        (first | refine run_ret rfl ?_ | refine run_done rfl ?_)
        rw [all_drop_nil isL s hk]
theorem IsWord_ok' (s : Str) : CallsOK PP F_spec_IsWord [.v (.str s)] [.v (.bool (isWord s))] := by
  refine S_spec_IsWord rfl (Nat.le_of_ble_eq_true rfl) ?_
  repeat' (first | refine goM rfl ?_ | refine goR rfl ?_ | refine goX rfl ?_ | refine goY rfl ?_ | refine goA rfl ?_ | refine any_run ?_ | refine any_nil (by kernel_rfl) rfl ?_ | refine goC (l1In_ok _ _ _) rfl rfl rfl rfl ?_)
  (first | refine mid_gdT rfl rfl (fun hb => ?_) (fun hb => ?_) | refine mid_gdF rfl rfl (fun hb => ?_) (fun hb => ?_) | refine run_cnd rfl (fun hb => ?_) (fun hb => ?_)) <;> try rw [hb]
  · repeat' (first | refine goM rfl ?_ | refine goR rfl ?_ | refine goX rfl ?_ | refine goY rfl ?_ | refine goA rfl ?_ | refine any_run ?_ | refine any_nil (by kernel_rfl) rfl ?_)
    (first | refine run_ret rfl ?_ | refine run_done rfl ?_)
    simp only [Bool.not_eq_true'] at hb
    simp [isWord, hb]
  · simp only [Bool.not_eq_false'] at hb
    have hl : s.length ≤ 8 := by simp [inR] at hb; omega
    have key : ∀ k : Nat, L_spec_IsWord_0 PP [(0, .v (.str s)), (3, .v (.int .i64 k))] [.v (.bool ((s.drop k).all isL))] := up s.length (fun k ih => ?_)
    · repeat' (first | refine goM rfl ?_ | refine goR rfl ?_ | refine goX rfl ?_ | refine goY rfl ?_ | refine goA rfl ?_ | refine any_run ?_ | refine any_nil (by kernel_rfl) rfl ?_)
      refine run_loopF rfl ?_
      have e : isWord s = s.all isL := by simp only [isWord, hb, Bool.true_and]
      rw [e]
      exact key 0
    · repeat' (first | refine goM rfl ?_ | refine goR rfl ?_ | refine goX rfl ?_ | refine goY rfl ?_ | refine goA rfl ?_ | refine any_run ?_ | refine any_nil (by kernel_rfl) rfl ?_)
      refine run_cnd_lt rfl (fun hk => ?_) (fun hk => ?_)
      · rw [all_drop isL s hk]
        repeat' (first | refine mid_sidxs rfl rfl hk rfl ?_ | refine goM rfl ?_ | refine goR rfl ?_ | refine goX rfl ?_ | refine goY rfl ?_ | refine goA rfl ?_ | refine any_run ?_ | refine any_nil (by kernel_rfl) rfl ?_)
        (first | refine mid_gdT rfl rfl (fun hb => ?_) (fun hb => ?_) | refine mid_gdF rfl rfl (fun hb => ?_) (fun hb => ?_) | refine run_cnd rfl (fun hb => ?_) (fun hb => ?_)) <;> try rw [hb]
        · repeat' (first | refine mid_sidxs rfl rfl hk rfl ?_ | refine goM rfl ?_ | refine goR rfl ?_ | refine goX rfl ?_ | refine goY rfl ?_ | refine goA rfl ?_ | refine any_run ?_ | refine any_nil (by kernel_rfl) rfl ?_)
          (first | refine run_ret rfl ?_ | refine run_done rfl ?_)
          have : isL s[k] = false := by simp only [isL, cv, Bool.and_eq_false_iff, decide_eq_false_iff_not, decide_eq_true_eq] at hb ⊢; omega
          rw [this]; rfl
        · repeat' (first | refine mid_sidxs rfl rfl hk rfl ?_ | refine goM rfl ?_ | refine goR rfl ?_ | refine goX rfl ?_ | refine goY rfl ?_ | refine goA rfl ?_ | refine any_run ?_ | refine any_nil (by kernel_rfl) rfl ?_)
          simp only [decide_eq_false_iff_not] at hb
          refine run_cnd rfl (fun hc => ?_) (fun hc => ?_)
          · repeat' (first | refine goM rfl ?_ | refine goR rfl ?_ | refine goX rfl ?_ | refine goY rfl ?_ | refine goA rfl ?_ | refine any_run ?_ | refine any_nil (by kernel_rfl) rfl ?_)
            (first | refine run_ret rfl ?_ | refine run_done rfl ?_)
            have : isL s[k] = false := by simp only [isL, cv, Bool.and_eq_false_iff, decide_eq_false_iff_not, decide_eq_true_eq] at hc ⊢; omega
            rw [this]; rfl
          · repeat' (first | refine goM rfl ?_ | refine goR rfl ?_ | refine goX rfl ?_ | refine goY rfl ?_ | refine goA rfl ?_ | refine any_run ?_ | refine any_nil (by kernel_rfl) rfl ?_)
            refine run_backF rfl ?_
            rw [wsucc (by omega)]
            have : isL s[k] = true := by simp only [isL, cv, Bool.and_eq_true, decide_eq_false_iff_not, decide_eq_true_eq] at hc hb ⊢; omega
            rw [this, Bool.true_and]
            exact ih hk
      · repeat' (first | refine goM rfl ?_ | refine goR rfl ?_ | refine goX rfl ?_ | refine goY rfl ?_ | refine goA rfl ?_ | refine any_run ?_ | refine any_nil (by kernel_rfl) rfl ?_)
        (first | refine run_ret rfl ?_ | refine run_done rfl ?_)
        rw [all_drop_nil isL s hk]
end Go.Rd

namespace Go.Rd
open Go.Proofs
set_option linter.unusedSimpArgs false
set_option linter.unusedVariables false
set_option maxRecDepth 10000
set_option maxHeartbeats 4000000

section
variable {P : Program} {Q : Env → Prop} {nf : Nat} {l : List GOp} {keep : List Nat} {k : List It} {E : Env}
theorem mid_idxg {α : Type} [Inhabited α] {f : α → List DV} {xs : List α} {d sz n : Nat} {x i : X} {ki : IntKind} {j : Int} (hx : vw E x = .v (.sl sz (xs.map f))) (hi : vw E i = .v (.int ki j)) (hj : j = (n : Int) ∧ n < xs.length) (hp : okPut d (.row (f (xs.getD n default))) E = true)
    (hm : Mid (nf - 1) P Q l keep k ((d, .row (f (xs.getD n default))) :: E)) : Mid nf P Q (⟨some d, none, .idx sz x i⟩ :: l) keep k E := by
  obtain ⟨rfl, hn⟩ := hj
  exact mid_idx hx hi (by omega) (by simpa using hn) (by
    rw [Int.toNat_natCast, getD_map f xs hn, List.getD_eq_getElem?_getD, List.getElem?_eq_getElem hn]; rfl) hp hm
end

def beforeW (a b : Str) : Bool := if a.length == b.length then Op.bytesLess a b else decide (a.length < b.length)
theorem BeforeWord_ok (a b : Str) : CallsOK PP F_impl_BeforeWord [.v (.str a), .v (.str b)] [.v (.bool (beforeW a b))] := by
  refine S_impl_BeforeWord rfl (Nat.le_of_ble_eq_true rfl) ?_
  repeat' (first | refine goM rfl ?_ | refine goR rfl ?_ | refine goX rfl ?_ | refine goY rfl ?_ | refine goA rfl ?_ | refine any_run ?_ | refine any_nil (by kernel_rfl) rfl ?_)
  (first | refine mid_gdT rfl rfl (fun hb => ?_) (fun hb => ?_) | refine mid_gdF rfl rfl (fun hb => ?_) (fun hb => ?_) | refine run_cnd rfl (fun hb => ?_) (fun hb => ?_)) <;> try rw [hb]
  · repeat' (first | refine goM rfl ?_ | refine goR rfl ?_ | refine goX rfl ?_ | refine goY rfl ?_ | refine goA rfl ?_ | refine any_run ?_ | refine any_nil (by kernel_rfl) rfl ?_)
    (first | refine run_ret rfl ?_ | refine run_done rfl ?_)
    have h : (a.length == b.length) = false := by simp only [bne_iff_ne, ne_eq] at hb; rw [beq_eq_false_iff_ne]; omega
    simp only [beforeW, h, Bool.false_eq_true, if_false]
    congr 3; exact decide_eq_decide.2 (by omega)
  · repeat' (first | refine goM rfl ?_ | refine goR rfl ?_ | refine goX rfl ?_ | refine goY rfl ?_ | refine goA rfl ?_ | refine any_run ?_ | refine any_nil (by kernel_rfl) rfl ?_)
    (first | refine run_ret rfl ?_ | refine run_done rfl ?_)
    have h : (a.length == b.length) = true := by simp only [bne_eq_false_iff_eq] at hb; rw [beq_iff_eq]; omega
    simp only [beforeW, h, if_true]
theorem BeforeWord_ok' (a b : Str) : CallsOK PP F_spec_BeforeWord [.v (.str a), .v (.str b)] [.v (.bool (beforeW a b))] := by
  refine S_spec_BeforeWord rfl (Nat.le_of_ble_eq_true rfl) ?_
  repeat' (first | refine goM rfl ?_ | refine goR rfl ?_ | refine goX rfl ?_ | refine goY rfl ?_ | refine goA rfl ?_ | refine any_run ?_ | refine any_nil (by kernel_rfl) rfl ?_)
  (first | refine mid_gdT rfl rfl (fun hb => ?_) (fun hb => ?_) | refine mid_gdF rfl rfl (fun hb => ?_) (fun hb => ?_) | refine run_cnd rfl (fun hb => ?_) (fun hb => ?_)) <;> try rw [hb]
  · repeat' (first | refine goM rfl ?_ | refine goR rfl ?_ | refine goX rfl ?_ | refine goY rfl ?_ | refine goA rfl ?_ | refine any_run ?_ | refine any_nil (by kernel_rfl) rfl ?_)
    (first | refine run_ret rfl ?_ | refine run_done rfl ?_)
    have h : (a.length == b.length) = false := by simp only [bne_iff_ne, ne_eq] at hb; rw [beq_eq_false_iff_ne]; omega
    simp only [beforeW, h, Bool.false_eq_true, if_false]
    congr 3; exact decide_eq_decide.2 (by omega)
  · repeat' (first | refine goM rfl ?_ | refine goR rfl ?_ | refine goX rfl ?_ | refine goY rfl ?_ | refine goA rfl ?_ | refine any_run ?_ | refine any_nil (by kernel_rfl) rfl ?_)
    (first | refine run_ret rfl ?_ | refine run_done rfl ?_)
    have h : (a.length == b.length) = true := by simp only [bne_eq_false_iff_eq] at hb; rw [beq_iff_eq]; omega
    simp only [beforeW, h, if_true]
def lisOk (l : List Lis) (i : Nat) (x : Lis) : Bool := isWord x.word && inR x.frm 0 x.til && decide (x.til ≤ 1000) && inR x.score 0 99 && (!decide ((0 : Int) < i) || beforeW (l.getD (i - 1) default).word x.word)
def isList (l : List Lis) : Bool := decide (l.length ≤ 40) && allI (lisOk l) l 0
theorem prev_at {α : Type} (l : List α) {k : Nat} (hk : k < l.length) (hl : l.length ≤ 1048576) : decide ((0 : Int) < (k : Int)) = true → IntKind.i64.wrap ((k : Int) - 1) = ((k - 1 : Nat) : Int) ∧ k - 1 < l.length := fun h => by
  have h := of_decide_eq_true h
  rw [w64 (by omega) (by omega)]; omega

theorem IsList_ok (l : List Lis) (hl : l.length ≤ 1048576) : CallsOK PP F_impl_IsList [.v (dLiss l)] [.v (.bool (isList l))] := by
  refine S_impl_IsList rfl (Nat.le_of_ble_eq_true rfl) ?_
  repeat' (first | refine goM rfl ?_ | refine goR rfl ?_ | refine goX rfl ?_ | refine goY rfl ?_ | refine goA rfl ?_ | refine any_run ?_ | refine any_nil (by kernel_rfl) rfl ?_)
  simp only [List.length_map]
  (first | refine mid_gdT rfl rfl (fun h40 => ?_) (fun h40 => ?_) | refine mid_gdF rfl rfl (fun h40 => ?_) (fun h40 => ?_) | refine run_cnd rfl (fun h40 => ?_) (fun h40 => ?_)) <;> try rw [h40]
  · repeat' (first | refine goM rfl ?_ | refine goR rfl ?_ | refine goX rfl ?_ | refine goY rfl ?_ | refine goA rfl ?_ | refine any_run ?_ | refine any_nil (by kernel_rfl) rfl ?_)
    (first | refine run_ret rfl ?_ | refine run_done rfl ?_)
    have : ¬ l.length ≤ 40 := by have := of_decide_eq_true h40; omega
    simp [isList, this]
  · have h40 : l.length ≤ 40 := by have := of_decide_eq_false h40; omega
    have key : ∀ k : Nat, L_impl_IsList_0 PP [(0, .v (dLiss l)), (8, .v (dLiss l)), (9, .v (.int .i64 l.length)), (10, .v (.int .i64 k))] [.v (.bool (allI (lisOk l) (l.drop k) k))] := up l.length (fun k ih => ?_)
    · repeat' (first | refine goM rfl ?_ | refine goR rfl ?_ | refine goX rfl ?_ | refine goY rfl ?_ | refine goA rfl ?_ | refine any_run ?_ | refine any_nil (by kernel_rfl) rfl ?_)
      simp only [List.length_map]
      refine run_loopF rfl ?_
      simp only [isList, h40, decide_true, Bool.true_and]
      exact key 0
    · repeat' (first | refine goM rfl ?_ | refine goR rfl ?_ | refine goX rfl ?_ | refine goY rfl ?_ | refine goA rfl ?_ | refine any_run ?_ | refine any_nil (by kernel_rfl) rfl ?_)
      refine run_cnd_lt rfl (fun hk => ?_) (fun hk => ?_)
      · rw [allI_drop _ l hk]
        have ih := ih hk
        rw [← wsucc (show k < 9223372036854775807 by omega)] at ih
        have hp := prev_at l hk hl
        generalize hR : allI (lisOk l) (l.drop (k + 1)) (k + 1) = R at ih ⊢
        repeat' (first | refine mid_idxm (d := 13) rfl rfl hk rfl ?_ | refine goM rfl ?_ | refine goR rfl ?_ | refine goX rfl ?_ | refine goY rfl ?_ | refine goA rfl ?_ | refine any_run ?_ | refine any_nil (by kernel_rfl) rfl ?_)
        generalize l[k] = x
        simp only [rLis]
        repeat' (first | refine mid_idxg (d := 21) (n := k - 1) rfl rfl (by exact hp hb) rfl ?_ | refine goM rfl ?_ | refine goR rfl ?_ | refine goX rfl ?_ | refine goY rfl ?_ | refine goA rfl ?_ | refine any_run ?_ | refine any_nil (by kernel_rfl) rfl ?_ | refine goC (IsWord_ok _) rfl rfl rfl rfl ?_ | refine goC (InRange_ok _ _ _) rfl rfl rfl rfl ?_ | refine goC (BeforeWord_ok _ _) rfl rfl rfl rfl ?_ | (refine mid_gdT rfl rfl (fun hb => ?_) (fun hb => ?_) <;> try rw [hb]) | (refine mid_gdF rfl rfl (fun hb => ?_) (fun hb => ?_) <;> try rw [hb]) | (refine run_cnd rfl (fun hb => ?_) (fun hb => ?_) <;> try rw [hb]))
        all_goals first
          | (refine run_ret rfl ?_; rw [show lisOk l k x = false by (clear ih hp hR; simp_all [lisOk, rLis, inR] <;> (intros; omega))]; rfl)
          | (refine run_backF rfl ?_; rw [show lisOk l k x = true by (clear ih hp hR; simp_all [lisOk, rLis, inR] <;> omega), Bool.true_and]; exact ih)
      · repeat' (first | refine goM rfl ?_ | refine goR rfl ?_ | refine goX rfl ?_ | refine goY rfl ?_ | refine goA rfl ?_ | refine any_run ?_ | refine any_nil (by kernel_rfl) rfl ?_)
        (first | refine run_ret rfl ?_ | refine run_done rfl ?_)
        rw [allI_nil _ l hk]
theorem IsList_ok' (l : List Lis) (hl : l.length ≤ 1048576) : CallsOK PP F_spec_IsList [.v (dLiss l)] [.v (.bool (decide (l.length ≤ 40) && allI (lisOk l) l 0))] := by
  refine S_spec_IsList rfl (Nat.le_of_ble_eq_true rfl) ?_
  have key : ∀ k : Nat, L_spec_IsList_0 PP [(0, .v (dLiss l)), (3, .v (.int .i64 k))] [.v (.bool (decide (l.length ≤ 40) && allI (lisOk l) (l.drop k) k))] := up l.length (fun k ih => ?_)
  · repeat' (first | refine goM rfl ?_ | refine goR rfl ?_ | refine goX rfl ?_ | refine goY rfl ?_ | refine goA rfl ?_ | refine any_run ?_ | refine any_nil (by kernel_rfl) rfl ?_)
    refine run_loopF rfl ?_
    exact key 0
  · repeat' (first | refine goM rfl ?_ | refine goR rfl ?_ | refine goX rfl ?_ | refine goY rfl ?_ | refine goA rfl ?_ | refine any_run ?_ | refine any_nil (by kernel_rfl) rfl ?_)
    simp only [List.length_map]
    refine run_cnd_lt rfl (fun hk => ?_) (fun hk => ?_)
    · rw [allI_drop _ l hk]
      have ih := ih hk
      rw [← wsucc (show k < 9223372036854775807 by omega)] at ih
      have hp := prev_at l hk hl
      have hgk : l.getD k default = l[k] := by rw [List.getD_eq_getElem?_getD, List.getElem?_eq_getElem hk]; rfl
      generalize hR : allI (lisOk l) (l.drop (k + 1)) (k + 1) = R at ih ⊢
      repeat' (first | refine mid_idxm (d := 13) rfl rfl hk rfl ?_ | refine goM rfl ?_ | refine goR rfl ?_ | refine goX rfl ?_ | refine goY rfl ?_ | refine goA rfl ?_ | refine any_run ?_ | refine any_nil (by kernel_rfl) rfl ?_)
      generalize l[k] = x
      simp only [rLis]
      repeat' (first | refine mid_idxg (d := 49) (n := k - 1) rfl rfl (by exact hp hb) rfl ?_ | refine goM rfl ?_ | refine goR rfl ?_ | refine goX rfl ?_ | refine goY rfl ?_ | refine goA rfl ?_ | refine any_run ?_ | refine any_nil (by kernel_rfl) rfl ?_ | refine goC (IsWord_ok' _) rfl rfl rfl rfl ?_ | refine goC (l1In_ok _ _ _) rfl rfl rfl rfl ?_ | refine goC (BeforeWord_ok' _ _) rfl rfl rfl rfl ?_ | (refine mid_gdT rfl rfl (fun hb => ?_) (fun hb => ?_) <;> try rw [hb]) | (refine mid_gdF rfl rfl (fun hb => ?_) (fun hb => ?_) <;> try rw [hb]) | (refine run_cnd rfl (fun hb => ?_) (fun hb => ?_) <;> try rw [hb]))
      all_goals first
        | (refine run_ret rfl ?_; rw [show lisOk l k x = false by (clear ih hp hR; simp_all [lisOk, rLis, inR] <;> (intros; omega))]; simp only [Bool.false_and, Bool.and_false])
        | (refine run_backF rfl ?_; rw [show lisOk l k x = true by (clear ih hp hR; simp_all [lisOk, rLis, inR] <;> omega), Bool.true_and]; exact ih)
    · repeat' (first | refine goM rfl ?_ | refine goR rfl ?_ | refine goX rfl ?_ | refine goY rfl ?_ | refine goA rfl ?_ | refine any_run ?_ | refine any_nil (by kernel_rfl) rfl ?_)
      (first | refine run_ret rfl ?_ | refine run_done rfl ?_)
      simp only [List.length_map]
      rw [allI_nil _ l hk, Bool.and_true]
      congr 3; exact decide_eq_decide.2 (by omega)
end Go.Rd

namespace Go.Rd
open Go.Proofs
set_option linter.unusedSimpArgs false
set_option linter.unusedVariables false
set_option maxRecDepth 10000
set_option maxHeartbeats 4000000

section
variable {P : Program} {Q : Env → Prop} {nf : Nat} {l : List GOp} {keep : List Nat} {k : List It} {E : Env}
theorem mid_idxv {α : Type} {f : α → List DV} {xs : List α} {y : α} {n : Nat} {d sz : Nat} {x i : X} {ki : IntKind} (hn : n < xs.length) (hy : xs[n] = y) (hx : vw E x = .v (.sl sz (xs.map f))) (hi : vw E i = .v (.int ki (n : Int))) (hp : okPut d (.row (f y)) E = true)
    (hm : Mid (nf - 1) P Q l keep k ((d, .row (f y)) :: E)) : Mid nf P Q (⟨some d, none, .idx sz x i⟩ :: l) keep k E := by
  subst hy; exact mid_idxm hx hi hn hp hm
end
theorem less_irr : ∀ s : List UInt8, Op.bytesLess s s = false
  | [] => rfl
  | c :: s => by simp [Op.bytesLess, less_irr s]
theorem beforeW_irr (s : Str) : beforeW s s = false := by simp [beforeW, less_irr]
def beforeM (a b : Mea) : Bool := if a.word == b.word then decide (a.sense < b.sense) else beforeW a.word b.word
theorem beforeMeaning_ok (a b : Mea) : CallsOK PP F_impl_beforeMeaning [.agg (rMea a), .agg (rMea b)] [.v (.bool (beforeM a b))] := by
  refine S_impl_beforeMeaning rfl (Nat.le_of_ble_eq_true rfl) ?_
  simp only [rMea]
  repeat' (first | refine goM rfl ?_ | refine goR rfl ?_ | refine goX rfl ?_ | refine goY rfl ?_ | refine goA rfl ?_ | refine any_run ?_ | refine any_nil (by kernel_rfl) rfl ?_ | refine goC (BeforeWord_ok _ _) rfl rfl rfl rfl ?_ | (refine mid_gdT rfl rfl (fun hb => ?_) (fun hb => ?_) <;> try rw [hb]) | (refine mid_gdF rfl rfl (fun hb => ?_) (fun hb => ?_) <;> try rw [hb]) | (refine run_cnd rfl (fun hb => ?_) (fun hb => ?_) <;> try rw [hb]))
  all_goals (first | refine run_ret rfl ?_ | refine run_done rfl ?_)
  all_goals simp_all [beforeM]
theorem l17Before_ok (a b : Mea) : CallsOK PP F_spec_l17Before [.agg (rMea a), .agg (rMea b)] [.v (.bool (beforeM a b))] := by
  refine S_spec_l17Before rfl (Nat.le_of_ble_eq_true rfl) ?_
  simp only [rMea]
  repeat' (first | refine goM rfl ?_ | refine goR rfl ?_ | refine goX rfl ?_ | refine goY rfl ?_ | refine goA rfl ?_ | refine any_run ?_ | refine any_nil (by kernel_rfl) rfl ?_ | refine goC (BeforeWord_ok' _ _) rfl rfl rfl rfl ?_ | (refine mid_gdT rfl rfl (fun hb => ?_) (fun hb => ?_) <;> try rw [hb]) | (refine mid_gdF rfl rfl (fun hb => ?_) (fun hb => ?_) <;> try rw [hb]) | (refine run_cnd rfl (fun hb => ?_) (fun hb => ?_) <;> try rw [hb]))
  all_goals (first | refine run_ret rfl ?_ | refine run_done rfl ?_)
  all_goals by_cases h : a.word = b.word <;> simp_all [beforeM, beforeW_irr]
def meaOk (l : List Mea) (i : Nat) (x : Mea) : Bool := isWord x.word && inR x.sense 1 99 && (!decide ((0 : Int) < i) || beforeM (l.getD (i - 1) default) x)
theorem IsDictionary_ok' (l : List Mea) (hl : l.length ≤ 1048576) : CallsOK PP F_spec_IsDictionary [.v (dMeas l)] [.v (.bool (decide (l.length ≤ 40) && allI (meaOk l) l 0))] := by
  refine S_spec_IsDictionary rfl (Nat.le_of_ble_eq_true rfl) ?_
  have key : ∀ k : Nat, L_spec_IsDictionary_0 PP [(0, .v (dMeas l)), (3, .v (.int .i64 k))] [.v (.bool (decide (l.length ≤ 40) && allI (meaOk l) (l.drop k) k))] := up l.length (fun k ih => ?_)
  · repeat' (first | refine goM rfl ?_ | refine goR rfl ?_ | refine goX rfl ?_ | refine goY rfl ?_ | refine goA rfl ?_ | refine any_run ?_ | refine any_nil (by kernel_rfl) rfl ?_)
    refine run_loopF rfl ?_
    exact key 0
  · repeat' (first | refine goM rfl ?_ | refine goR rfl ?_ | refine goX rfl ?_ | refine goY rfl ?_ | refine goA rfl ?_ | refine any_run ?_ | refine any_nil (by kernel_rfl) rfl ?_)
    simp only [List.length_map]
    refine run_cnd_lt rfl (fun hk => ?_) (fun hk => ?_)
    · have ih := ih hk
      rw [← wsucc (show k < 9223372036854775807 by omega)] at ih
      have hp := prev_at l hk hl
      rw [allI_drop _ l hk]
      generalize hR : allI (meaOk l) (l.drop (k + 1)) (k + 1) = R at ih ⊢
      generalize hx : l[k] = x
      repeat' (first | refine mid_idxv (d := 12) hk hx rfl rfl rfl ?_ | refine mid_idxv (d := 20) hk hx rfl rfl rfl ?_ | refine mid_idxv (d := 37) hk hx rfl rfl rfl ?_ | refine mid_idxg (d := 33) (n := k - 1) rfl rfl (by exact hp hb) rfl ?_ | refine goM rfl ?_ | refine goR rfl ?_ | refine goX rfl ?_ | refine goY rfl ?_ | refine goA rfl ?_ | refine any_run ?_ | refine any_nil (by kernel_rfl) rfl ?_ | refine goC (IsWord_ok' _) rfl rfl rfl rfl ?_ | refine goC (l1In_ok _ _ _) rfl rfl rfl rfl ?_ | refine goC (l17Before_ok _ _) rfl rfl rfl rfl ?_ | (refine mid_gdT rfl rfl (fun hb => ?_) (fun hb => ?_) <;> try rw [hb]) | (refine mid_gdF rfl rfl (fun hb => ?_) (fun hb => ?_) <;> try rw [hb]) | (refine run_cnd rfl (fun hb => ?_) (fun hb => ?_) <;> try rw [hb]))
      all_goals first
        | (refine run_ret rfl ?_; rw [show meaOk l k x = false by (clear ih hp hR hx; simp_all [meaOk, rMea] <;> (intros; omega))]; simp only [Bool.false_and, Bool.and_false])
        | (refine run_backF rfl ?_; rw [show meaOk l k x = true by (clear ih hp hR hx; simp_all [meaOk, rMea] <;> omega), Bool.true_and]; exact ih)
    · repeat' (first | refine goM rfl ?_ | refine goR rfl ?_ | refine goX rfl ?_ | refine goY rfl ?_ | refine goA rfl ?_ | refine any_run ?_ | refine any_nil (by kernel_rfl) rfl ?_)
      (first | refine run_ret rfl ?_ | refine run_done rfl ?_)
      simp only [List.length_map]
      rw [allI_nil _ l hk, Bool.and_true]
      congr 3; exact decide_eq_decide.2 (by omega)
theorem IsDictionary_ok (l : List Mea) (hl : l.length ≤ 1048576) : CallsOK PP F_impl_IsDictionary [.v (dMeas l)] [.v (.bool (decide (l.length ≤ 40) && allI (meaOk l) l 0))] := by
  refine S_impl_IsDictionary rfl (Nat.le_of_ble_eq_true rfl) ?_
  repeat' (first | refine goM rfl ?_ | refine goR rfl ?_ | refine goX rfl ?_ | refine goY rfl ?_ | refine goA rfl ?_ | refine any_run ?_ | refine any_nil (by kernel_rfl) rfl ?_)
  simp only [List.length_map]
  (first | refine mid_gdT rfl rfl (fun h40 => ?_) (fun h40 => ?_) | refine mid_gdF rfl rfl (fun h40 => ?_) (fun h40 => ?_) | refine run_cnd rfl (fun h40 => ?_) (fun h40 => ?_)) <;> try rw [h40]
  · repeat' (first | refine goM rfl ?_ | refine goR rfl ?_ | refine goX rfl ?_ | refine goY rfl ?_ | refine goA rfl ?_ | refine any_run ?_ | refine any_nil (by kernel_rfl) rfl ?_)
    (first | refine run_ret rfl ?_ | refine run_done rfl ?_)
    have : ¬ l.length ≤ 40 := by have := of_decide_eq_true h40; omega
    simp [this]
  · have h40 : l.length ≤ 40 := by have := of_decide_eq_false h40; omega
    have key : ∀ k : Nat, L_impl_IsDictionary_0 PP [(0, .v (dMeas l)), (8, .v (dMeas l)), (9, .v (.int .i64 l.length)), (10, .v (.int .i64 k))] [.v (.bool (allI (meaOk l) (l.drop k) k))] := up l.length (fun k ih => ?_)
    · repeat' (first | refine goM rfl ?_ | refine goR rfl ?_ | refine goX rfl ?_ | refine goY rfl ?_ | refine goA rfl ?_ | refine any_run ?_ | refine any_nil (by kernel_rfl) rfl ?_)
      simp only [List.length_map]
      refine run_loopF rfl ?_
      simp only [h40, decide_true, Bool.true_and]
      exact key 0
    · repeat' (first | refine goM rfl ?_ | refine goR rfl ?_ | refine goX rfl ?_ | refine goY rfl ?_ | refine goA rfl ?_ | refine any_run ?_ | refine any_nil (by kernel_rfl) rfl ?_)
      refine run_cnd_lt rfl (fun hk => ?_) (fun hk => ?_)
      · have ih := ih hk
        rw [← wsucc (show k < 9223372036854775807 by omega)] at ih
        have hp := prev_at l hk hl
        rw [allI_drop _ l hk]
        generalize hR : allI (meaOk l) (l.drop (k + 1)) (k + 1) = R at ih ⊢
        generalize hx : l[k] = x
        repeat' (first | refine mid_idxv (d := 13) hk hx rfl rfl rfl ?_ | refine mid_idxg (d := 21) (n := k - 1) rfl rfl (by exact hp hb) rfl ?_ | refine goM rfl ?_ | refine goR rfl ?_ | refine goX rfl ?_ | refine goY rfl ?_ | refine goA rfl ?_ | refine any_run ?_ | refine any_nil (by kernel_rfl) rfl ?_ | refine goC (IsWord_ok _) rfl rfl rfl rfl ?_ | refine goC (InRange_ok _ _ _) rfl rfl rfl rfl ?_ | refine goC (beforeMeaning_ok _ _) rfl rfl rfl rfl ?_ | (refine mid_gdT rfl rfl (fun hb => ?_) (fun hb => ?_) <;> try rw [hb]) | (refine mid_gdF rfl rfl (fun hb => ?_) (fun hb => ?_) <;> try rw [hb]) | (refine run_cnd rfl (fun hb => ?_) (fun hb => ?_) <;> try rw [hb]))
        all_goals first
          | (refine run_ret rfl ?_; rw [show meaOk l k x = false by (clear ih hp hR hx; simp_all [meaOk, rMea] <;> (intros; omega))]; simp only [Bool.false_and, Bool.and_false])
          | (refine run_backF rfl ?_; rw [show meaOk l k x = true by (clear ih hp hR hx; simp_all [meaOk, rMea] <;> omega), Bool.true_and]; exact ih)
      · repeat' (first | refine goM rfl ?_ | refine goR rfl ?_ | refine goX rfl ?_ | refine goY rfl ?_ | refine goA rfl ?_ | refine any_run ?_ | refine any_nil (by kernel_rfl) rfl ?_)
        (first | refine run_ret rfl ?_ | refine run_done rfl ?_)
        rw [allI_nil _ l hk]
end Go.Rd

namespace Go.Rd
open Go.Proofs
set_option linter.unusedSimpArgs false
set_option linter.unusedVariables false
set_option maxRecDepth 10000

theorem CloneListed_ok (es : List (List DV)) (hl : es.length ≤ 1048576) : CallsOK PP F_slices_Clone_impl_Listed [.v (.sl 4 es)] [.own T_impl_Listed 4 40 es] := by
  refine S_slices_Clone_impl_Listed rfl (Nat.le_of_ble_eq_true rfl) ?_
  repeat' (first | refine goM rfl ?_ | refine goR rfl ?_ | refine goX rfl ?_ | refine goY rfl ?_ | refine goA rfl ?_ | refine any_run ?_ | refine any_nil (by kernel_rfl) rfl ?_)
  refine run_cndU rfl (fun he => ?_) (fun _ => ?_)
  · repeat' (first | refine goM rfl ?_ | refine goR rfl ?_ | refine goX rfl ?_ | refine goY rfl ?_ | refine goA rfl ?_ | refine any_run ?_ | refine any_nil (by kernel_rfl) rfl ?_)
    (first | refine run_ret rfl ?_ | refine run_done rfl ?_)
    subst he; rfl
  · repeat' (first | refine mid_app rfl rfl rfl (by decide) rfl (by simp; omega) (by simp; omega) ?_ | refine goM rfl ?_ | refine goR rfl ?_ | refine goX rfl ?_ | refine goY rfl ?_ | refine goA rfl ?_ | refine any_run ?_ | refine any_nil (by kernel_rfl) rfl ?_)
    (first | refine run_ret rfl ?_ | refine run_done rfl ?_)
    rfl
theorem CloneMeaning_ok (es : List (List DV)) (hl : es.length ≤ 1048576) : CallsOK PP F_slices_Clone_impl_Meaning [.v (.sl 2 es)] [.own T_impl_Meaning 2 24 es] := by
  refine S_slices_Clone_impl_Meaning rfl (Nat.le_of_ble_eq_true rfl) ?_
  repeat' (first | refine goM rfl ?_ | refine goR rfl ?_ | refine goX rfl ?_ | refine goY rfl ?_ | refine goA rfl ?_ | refine any_run ?_ | refine any_nil (by kernel_rfl) rfl ?_)
  refine run_cndU rfl (fun he => ?_) (fun _ => ?_)
  · repeat' (first | refine goM rfl ?_ | refine goR rfl ?_ | refine goX rfl ?_ | refine goY rfl ?_ | refine goA rfl ?_ | refine any_run ?_ | refine any_nil (by kernel_rfl) rfl ?_)
    (first | refine run_ret rfl ?_ | refine run_done rfl ?_)
    subst he; rfl
  · repeat' (first | refine mid_app rfl rfl rfl (by decide) rfl (by simp; omega) (by simp; omega) ?_ | refine goM rfl ?_ | refine goR rfl ?_ | refine goX rfl ?_ | refine goY rfl ?_ | refine goA rfl ?_ | refine any_run ?_ | refine any_nil (by kernel_rfl) rfl ?_)
    (first | refine run_ret rfl ?_ | refine run_done rfl ?_)
    rfl
theorem CloneUsed_ok (es : List (List DV)) (hl : es.length ≤ 1048576) : CallsOK PP F_slices_Clone_impl_Used [.v (.sl 2 es)] [.own T_impl_Used 2 24 es] := by
  refine S_slices_Clone_impl_Used rfl (Nat.le_of_ble_eq_true rfl) ?_
  repeat' (first | refine goM rfl ?_ | refine goR rfl ?_ | refine goX rfl ?_ | refine goY rfl ?_ | refine goA rfl ?_ | refine any_run ?_ | refine any_nil (by kernel_rfl) rfl ?_)
  refine run_cndU rfl (fun he => ?_) (fun _ => ?_)
  · repeat' (first | refine goM rfl ?_ | refine goR rfl ?_ | refine goX rfl ?_ | refine goY rfl ?_ | refine goA rfl ?_ | refine any_run ?_ | refine any_nil (by kernel_rfl) rfl ?_)
    (first | refine run_ret rfl ?_ | refine run_done rfl ?_)
    subst he; rfl
  · repeat' (first | refine mid_app rfl rfl rfl (by decide) rfl (by simp; omega) (by simp; omega) ?_ | refine goM rfl ?_ | refine goR rfl ?_ | refine goX rfl ?_ | refine goY rfl ?_ | refine goA rfl ?_ | refine any_run ?_ | refine any_nil (by kernel_rfl) rfl ?_)
    (first | refine run_ret rfl ?_ | refine run_done rfl ?_)
    rfl
theorem CloneEntry_ok (es : List (List DV)) (hl : es.length ≤ 1048576) : CallsOK PP F_slices_Clone_impl_Entry [.v (.sl 4 es)] [.own T_impl_Entry 4 40 es] := by
  refine S_slices_Clone_impl_Entry rfl (Nat.le_of_ble_eq_true rfl) ?_
  repeat' (first | refine goM rfl ?_ | refine goR rfl ?_ | refine goX rfl ?_ | refine goY rfl ?_ | refine goA rfl ?_ | refine any_run ?_ | refine any_nil (by kernel_rfl) rfl ?_)
  refine run_cndU rfl (fun he => ?_) (fun _ => ?_)
  · repeat' (first | refine goM rfl ?_ | refine goR rfl ?_ | refine goX rfl ?_ | refine goY rfl ?_ | refine goA rfl ?_ | refine any_run ?_ | refine any_nil (by kernel_rfl) rfl ?_)
    (first | refine run_ret rfl ?_ | refine run_done rfl ?_)
    subst he; rfl
  · repeat' (first | refine mid_app rfl rfl rfl (by decide) rfl (by simp; omega) (by simp; omega) ?_ | refine goM rfl ?_ | refine goR rfl ?_ | refine goX rfl ?_ | refine goY rfl ?_ | refine goA rfl ?_ | refine any_run ?_ | refine any_nil (by kernel_rfl) rfl ?_)
    (first | refine run_ret rfl ?_ | refine run_done rfl ?_)
    rfl

abbrev zDra : List DV := [.int .i64 0, .int .i64 0, .str [], .str [], .sl 2 [], .int .i64 0]
abbrev zHou (a b : DV) : List DV := [a, b, .int .i64 0, .int .i64 0, .str [], .str [], .sl 2 [], .int .i64 0, .sl 10 [], .sl 2 [], .sl 5 [], .sl 4 [], .int .i64 0]

theorem copyClues_z : CallsOK PP F_impl_copyClues [.v (.sl 2 [])] [.own T_impl_Clue 2 32 []] := by
  refine S_impl_copyClues rfl (Nat.le_of_ble_eq_true rfl) ?_
  repeat' (first | refine goM rfl ?_ | refine goR rfl ?_ | refine goX rfl ?_ | refine goY rfl ?_ | refine goA rfl ?_ | refine any_run ?_ | refine any_nil (by kernel_rfl) rfl ?_)
  refine run_loopF rfl ?_
  repeat' (first | refine goM rfl ?_ | refine goR rfl ?_ | refine goX rfl ?_ | refine goY rfl ?_ | refine goA rfl ?_ | refine any_run ?_ | refine any_nil (by kernel_rfl) rfl ?_)
  (first | refine run_ret rfl ?_ | refine run_done rfl ?_)
  rfl
theorem copyDraft_z : CallsOK PP F_impl_copyDraft [.agg zDra] [.agg zDra] := by
  refine S_impl_copyDraft rfl (Nat.le_of_ble_eq_true rfl) ?_
  repeat' (first | refine goM rfl ?_ | refine goR rfl ?_ | refine goX rfl ?_ | refine goY rfl ?_ | refine goA rfl ?_ | refine any_run ?_ | refine any_nil (by kernel_rfl) rfl ?_ | refine goC (copyClues_z) rfl rfl rfl rfl ?_)
  (first | refine run_ret rfl ?_ | refine run_done rfl ?_)
  rfl
theorem copyCorrections_z : CallsOK PP F_impl_copyCorrections [.v (.sl 5 [])] [.own T_impl_Correction 5 56 []] := by
  refine S_impl_copyCorrections rfl (Nat.le_of_ble_eq_true rfl) ?_
  repeat' (first | refine goM rfl ?_ | refine goR rfl ?_ | refine goX rfl ?_ | refine goY rfl ?_ | refine goA rfl ?_ | refine any_run ?_ | refine any_nil (by kernel_rfl) rfl ?_)
  refine run_loopF rfl ?_
  repeat' (first | refine goM rfl ?_ | refine goR rfl ?_ | refine goX rfl ?_ | refine goY rfl ?_ | refine goA rfl ?_ | refine any_run ?_ | refine any_nil (by kernel_rfl) rfl ?_)
  (first | refine run_ret rfl ?_ | refine run_done rfl ?_)
  rfl
theorem copyHouse_z (L D : List (List DV)) (hL : L.length ≤ 1048576) (hD : D.length ≤ 1048576) (fL : freeRows L = true) (fD : freeRows D = true) :
    CallsH PP F_impl_copyHouse [] [⟨T_impl_Listed, 4, 40, L⟩, ⟨T_impl_Meaning, 2, 24, D⟩] (fun _ => [.agg (zHou (.sl 4 L) (.sl 2 D))]) (fun u => [.agg (zHou (.val (u 0)) (.val (u 1)))]) := by
  refine SH_impl_copyHouse [] [1000, 1001] (fun _ => rfl) (fun _ => ⟨Nat.le_of_ble_eq_true rfl, by simp⟩) (by simp) (by simp) (fun u => ?_)
  repeat' (first | refine goM rfl ?_ | refine goR rfl ?_ | refine goX rfl ?_ | refine goY rfl ?_ | refine goA rfl ?_ | refine any_run ?_ | refine any_nil (by kernel_rfl) rfl ?_)
  refine mid_callN 1000 (CloneListed_ok L hL) rfl (vwA_same _) rfl fL rfl rfl (by decide) (fun v bs => ?_)
  repeat' (first | refine goM rfl ?_ | refine goR rfl ?_ | refine goX rfl ?_ | refine goY rfl ?_ | refine goA rfl ?_ | refine any_run ?_ | refine any_nil (by kernel_rfl) rfl ?_)
  refine mid_callN 1001 (CloneMeaning_ok D hD) rfl (vwA_same _) rfl fD rfl rfl (by decide) (fun v2 bs2 => ?_)
  repeat' (first | refine goM rfl ?_ | refine goR rfl ?_ | refine goX rfl ?_ | refine goY rfl ?_ | refine goA rfl ?_ | refine any_run ?_ | refine any_nil (by kernel_rfl) rfl ?_ | refine goC (copyDraft_z) rfl rfl rfl rfl ?_)
  refine run_loopF rfl ?_
  repeat' (first | refine goM rfl ?_ | refine goR rfl ?_ | refine goX rfl ?_ | refine goY rfl ?_ | refine goA rfl ?_ | refine any_run ?_ | refine any_nil (by kernel_rfl) rfl ?_ | refine goC (CloneUsed_ok [] (by simp)) rfl rfl rfl rfl ?_ | refine goC (CloneEntry_ok [] (by simp)) rfl rfl rfl rfl ?_ | refine goC (copyCorrections_z) rfl rfl rfl rfl ?_)
  refine RunQ.ret ?_
  exact ⟨(fun i => if i = 0 then v else v2, fun i => if i = 0 then bs else bs2), rfl, by simp, rfl, rfl, trivial⟩
end Go.Rd

namespace Go.Rd
open Go.Proofs
set_option linter.unusedSimpArgs false
set_option linter.unusedVariables false
set_option maxRecDepth 10000
set_option maxHeartbeats 1000000

theorem EqualFuncClue_z : CallsOK PP F_slices_EqualFunc_impl_Clue [.v (.sl 2 []), .v (.sl 2 []), .clo F_impl_sameClue []] [.v (.bool true)] := by
  refine S_slices_EqualFunc_impl_Clue rfl (Nat.le_of_ble_eq_true rfl) ?_
  repeat' (first | refine goM rfl ?_ | refine goR rfl ?_ | refine goX rfl ?_ | refine goY rfl ?_ | refine goA rfl ?_ | refine any_run ?_ | refine any_nil (by kernel_rfl) rfl ?_)
  refine run_loopF rfl ?_
  repeat' (first | refine goM rfl ?_ | refine goR rfl ?_ | refine goX rfl ?_ | refine goY rfl ?_ | refine goA rfl ?_ | refine any_run ?_ | refine any_nil (by kernel_rfl) rfl ?_)
  (first | refine run_ret rfl ?_ | refine run_done rfl ?_)
  rfl
theorem EqualDrafts_z : CallsOK PP F_impl_EqualDrafts [.agg zDra, .agg zDra] [.v (.bool true)] := by
  refine S_impl_EqualDrafts rfl (Nat.le_of_ble_eq_true rfl) ?_
  repeat' (first | refine goM rfl ?_ | refine goR rfl ?_ | refine goX rfl ?_ | refine goY rfl ?_ | refine goA rfl ?_ | refine any_run ?_ | refine any_nil (by kernel_rfl) rfl ?_ | refine goC (EqualFuncClue_z) rfl rfl rfl rfl ?_)
  (first | refine run_ret rfl ?_ | refine run_done rfl ?_)
  rfl
theorem AreCorrections_z : CallsOK PP F_impl_AreCorrections [.v (.sl 5 [])] [.v (.bool true)] := by
  refine S_impl_AreCorrections rfl (Nat.le_of_ble_eq_true rfl) ?_
  repeat' (first | refine goM rfl ?_ | refine goR rfl ?_ | refine goX rfl ?_ | refine goY rfl ?_ | refine goA rfl ?_ | refine any_run ?_ | refine any_nil (by kernel_rfl) rfl ?_)
  refine run_loopF rfl ?_
  repeat' (first | refine goM rfl ?_ | refine goR rfl ?_ | refine goX rfl ?_ | refine goY rfl ?_ | refine goA rfl ?_ | refine any_run ?_ | refine any_nil (by kernel_rfl) rfl ?_)
  (first | refine run_ret rfl ?_ | refine run_done rfl ?_)
  rfl
theorem AreCorrections_z' : CallsOK PP F_spec_AreCorrections [.v (.sl 5 [])] [.v (.bool true)] := by
  refine S_spec_AreCorrections rfl (Nat.le_of_ble_eq_true rfl) ?_
  repeat' (first | refine goM rfl ?_ | refine goR rfl ?_ | refine goX rfl ?_ | refine goY rfl ?_ | refine goA rfl ?_ | refine any_run ?_ | refine any_nil (by kernel_rfl) rfl ?_)
  refine run_loopF rfl ?_
  repeat' (first | refine goM rfl ?_ | refine goR rfl ?_ | refine goX rfl ?_ | refine goY rfl ?_ | refine goA rfl ?_ | refine any_run ?_ | refine any_nil (by kernel_rfl) rfl ?_)
  (first | refine run_ret rfl ?_ | refine run_done rfl ?_)
  rfl
theorem AreUses_z : CallsOK PP F_impl_AreUses [.v (.sl 2 [])] [.v (.bool true)] := by
  refine S_impl_AreUses rfl (Nat.le_of_ble_eq_true rfl) ?_
  repeat' (first | refine goM rfl ?_ | refine goR rfl ?_ | refine goX rfl ?_ | refine goY rfl ?_ | refine goA rfl ?_ | refine any_run ?_ | refine any_nil (by kernel_rfl) rfl ?_)
  refine run_loopF rfl ?_
  repeat' (first | refine goM rfl ?_ | refine goR rfl ?_ | refine goX rfl ?_ | refine goY rfl ?_ | refine goA rfl ?_ | refine any_run ?_ | refine any_nil (by kernel_rfl) rfl ?_)
  (first | refine run_ret rfl ?_ | refine run_done rfl ?_)
  rfl
theorem AreUses_z' : CallsOK PP F_spec_AreUses [.v (.sl 2 [])] [.v (.bool true)] := by
  refine S_spec_AreUses rfl (Nat.le_of_ble_eq_true rfl) ?_
  repeat' (first | refine goM rfl ?_ | refine goR rfl ?_ | refine goX rfl ?_ | refine goY rfl ?_ | refine goA rfl ?_ | refine any_run ?_ | refine any_nil (by kernel_rfl) rfl ?_)
  refine run_loopF rfl ?_
  repeat' (first | refine goM rfl ?_ | refine goR rfl ?_ | refine goX rfl ?_ | refine goY rfl ?_ | refine goA rfl ?_ | refine any_run ?_ | refine any_nil (by kernel_rfl) rfl ?_)
  (first | refine run_ret rfl ?_ | refine run_done rfl ?_)
  rfl
def houOk (l : List Lis) (d : List Mea) : Bool := isList l && (decide (d.length ≤ 40) && allI (meaOk d) d 0)
theorem IsHouse_z (l : List Lis) (d : List Mea) (hl : l.length ≤ 1048576) (hd : d.length ≤ 1048576) : CallsOK PP F_impl_IsHouse [.agg (zHou (dLiss l) (dMeas d))] [.v (.bool (houOk l d))] := by
  have hcor := AreCorrections_z
  have huse := AreUses_z
  refine S_impl_IsHouse rfl (Nat.le_of_ble_eq_true rfl) ?_
  repeat' (first | refine goM rfl ?_ | refine goR rfl ?_ | refine goX rfl ?_ | refine goY rfl ?_ | refine goA rfl ?_ | refine any_run ?_ | refine any_nil (by kernel_rfl) rfl ?_ | refine goC (IsList_ok l hl) rfl rfl rfl rfl ?_ | refine goC (IsDictionary_ok d hd) rfl rfl rfl rfl ?_ | refine goC (EqualDrafts_z) rfl rfl rfl rfl ?_)
  (first | refine mid_gdT rfl rfl (fun h1 => ?_) (fun h1 => ?_) | refine mid_gdF rfl rfl (fun h1 => ?_) (fun h1 => ?_) | refine run_cnd rfl (fun h1 => ?_) (fun h1 => ?_)) <;> try rw [h1]
  · simp only [Bool.not_eq_true'] at h1
    repeat' (first | refine goM rfl ?_ | refine goR rfl ?_ | refine goX rfl ?_ | refine goY rfl ?_ | refine goA rfl ?_ | refine any_run ?_ | refine any_nil (by kernel_rfl) rfl ?_)
    (first | refine run_ret rfl ?_ | refine run_done rfl ?_)
    simp only [houOk, h1]; rfl
  · simp only [Bool.not_eq_false'] at h1
    repeat' (first | refine goM rfl ?_ | refine goR rfl ?_ | refine goX rfl ?_ | refine goY rfl ?_ | refine goA rfl ?_ | refine any_run ?_ | refine any_nil (by kernel_rfl) rfl ?_ | refine goC (IsDictionary_ok d hd) rfl rfl rfl rfl ?_ | refine goC (EqualDrafts_z) rfl rfl rfl rfl ?_)
    generalize hB : (decide (d.length ≤ 40) && allI (meaOk d) d 0) = b2
    cases b2
    · repeat' (first | refine goM rfl ?_ | refine goR rfl ?_ | refine goX rfl ?_ | refine goY rfl ?_ | refine goA rfl ?_ | refine any_run ?_ | refine any_nil (by kernel_rfl) rfl ?_ | refine goC (IsDictionary_ok d hd) rfl rfl rfl rfl ?_ | refine goC (EqualDrafts_z) rfl rfl rfl rfl ?_)
      (first | refine run_ret rfl ?_ | refine run_done rfl ?_)
      simp only [houOk, h1, hB]; rfl
    · repeat' (first | refine goM rfl ?_ | refine goR rfl ?_ | refine goX rfl ?_ | refine goY rfl ?_ | refine goA rfl ?_ | refine any_run ?_ | refine any_nil (by kernel_rfl) rfl ?_ | refine goC (IsDictionary_ok d hd) rfl rfl rfl rfl ?_ | refine goC (EqualDrafts_z) rfl rfl rfl rfl ?_)
      refine run_loopF rfl ?_
      repeat' (first | refine goM rfl ?_ | refine goR rfl ?_ | refine goX rfl ?_ | refine goY rfl ?_ | refine goA rfl ?_ | refine any_run ?_ | refine any_nil (by kernel_rfl) rfl ?_ | refine goC (huse) rfl rfl rfl rfl ?_ | refine goC (hcor) rfl rfl rfl rfl ?_ | refine goC (InRange_ok 0 0 1000) rfl rfl rfl rfl ?_)
      refine run_loopF rfl ?_
      repeat' (first | refine goM rfl ?_ | refine goR rfl ?_ | refine goX rfl ?_ | refine goY rfl ?_ | refine goA rfl ?_ | refine any_run ?_ | refine any_nil (by kernel_rfl) rfl ?_)
      refine run_loopF rfl ?_
      repeat' (first | refine goM rfl ?_ | refine goR rfl ?_ | refine goX rfl ?_ | refine goY rfl ?_ | refine goA rfl ?_ | refine any_run ?_ | refine any_nil (by kernel_rfl) rfl ?_)
      (first | refine run_ret rfl ?_ | refine run_done rfl ?_)
      simp only [houOk, h1, hB]; rfl
end Go.Rd

namespace Go.Rd
open Go.Proofs
set_option linter.unusedSimpArgs false
set_option linter.unusedVariables false
set_option maxRecDepth 10000
set_option maxHeartbeats 1000000

theorem l21Clues_z : CallsOK PP F_spec_l21Clues [.v (.sl 2 [])] [.own T_impl_Clue 2 32 []] := by
  refine S_spec_l21Clues rfl (Nat.le_of_ble_eq_true rfl) ?_
  repeat' (first | refine goM rfl ?_ | refine goR rfl ?_ | refine goX rfl ?_ | refine goY rfl ?_ | refine goA rfl ?_ | refine any_run ?_ | refine any_nil (by kernel_rfl) rfl ?_)
  refine run_loopF rfl ?_
  repeat' (first | refine goM rfl ?_ | refine goR rfl ?_ | refine goX rfl ?_ | refine goY rfl ?_ | refine goA rfl ?_ | refine any_run ?_ | refine any_nil (by kernel_rfl) rfl ?_)
  (first | refine run_ret rfl ?_ | refine run_done rfl ?_)
  rfl
theorem l27Copy_z : CallsOK PP F_spec_l27Copy [.agg zDra] [.agg zDra] := by
  refine S_spec_l27Copy rfl (Nat.le_of_ble_eq_true rfl) ?_
  repeat' (first | refine goM rfl ?_ | refine goR rfl ?_ | refine goX rfl ?_ | refine goY rfl ?_ | refine goA rfl ?_ | refine any_run ?_ | refine any_nil (by kernel_rfl) rfl ?_ | refine goC (l21Clues_z) rfl rfl rfl rfl ?_)
  (first | refine run_ret rfl ?_ | refine run_done rfl ?_)
  rfl
theorem l31Copy_z : CallsOK PP F_spec_l31Copy [.v (.sl 5 [])] [.own T_impl_Correction 5 56 []] := by
  refine S_spec_l31Copy rfl (Nat.le_of_ble_eq_true rfl) ?_
  repeat' (first | refine goM rfl ?_ | refine goR rfl ?_ | refine goX rfl ?_ | refine goY rfl ?_ | refine goA rfl ?_ | refine any_run ?_ | refine any_nil (by kernel_rfl) rfl ?_)
  refine run_loopF rfl ?_
  repeat' (first | refine goM rfl ?_ | refine goR rfl ?_ | refine goX rfl ?_ | refine goY rfl ?_ | refine goA rfl ?_ | refine any_run ?_ | refine any_nil (by kernel_rfl) rfl ?_)
  (first | refine run_ret rfl ?_ | refine run_done rfl ?_)
  rfl
theorem l33Copy_z (L D : List (List DV)) (hL : L.length ≤ 1048576) (hD : D.length ≤ 1048576) : CallsOK PP F_spec_l33Copy [.agg (zHou (.sl 4 L) (.sl 2 D))] [.agg (zHou (.sl 4 L) (.sl 2 D))] := by
  refine S_spec_l33Copy rfl (Nat.le_of_ble_eq_true rfl) ?_
  repeat' (first | refine goAa rfl rfl (by decide) (by simp <;> omega) (by simp <;> omega) rfl ?_ | refine goAc l27Copy_z rfl rfl rfl rfl ?_ | refine goAc l31Copy_z rfl rfl rfl rfl ?_ | refine goAf [8, 12, 19, 26] rfl ?_ | refine goM rfl ?_ | refine goR rfl ?_ | refine goX rfl ?_ | refine goY rfl ?_ | refine goA rfl ?_ | refine any_run ?_ | refine any_nil (by kernel_rfl) rfl ?_)
  refine run_loopF rfl ?_
  repeat' (first | refine goM rfl ?_ | refine goR rfl ?_ | refine goX rfl ?_ | refine goY rfl ?_ | refine goA rfl ?_ | refine any_run ?_ | refine any_nil (by kernel_rfl) rfl ?_)
  (first | refine run_ret rfl ?_ | refine run_done rfl ?_)
  rfl
theorem l33Zero_z : CallsOK PP F_spec_l33Zero [.agg zDra] [.v (.bool true)] := by
  refine S_spec_l33Zero rfl (Nat.le_of_ble_eq_true rfl) ?_
  repeat' (first | refine goM rfl ?_ | refine goR rfl ?_ | refine goX rfl ?_ | refine goY rfl ?_ | refine goA rfl ?_ | refine any_run ?_ | refine any_nil (by kernel_rfl) rfl ?_)
  (first | refine run_ret rfl ?_ | refine run_done rfl ?_)
  rfl
theorem l33Rest_z (l : List Lis) (d : List Mea) : CallsOK PP F_spec_l33Rest [.agg (zHou (dLiss l) (dMeas d))] [.v (.bool true)] := by
  have hcor := AreCorrections_z'
  have huse := AreUses_z'
  refine S_spec_l33Rest rfl (Nat.le_of_ble_eq_true rfl) ?_
  repeat' (first | refine goM rfl ?_ | refine goR rfl ?_ | refine goX rfl ?_ | refine goY rfl ?_ | refine goA rfl ?_ | refine any_run ?_ | refine any_nil (by kernel_rfl) rfl ?_)
  refine run_loopF rfl ?_
  repeat' (first | refine goM rfl ?_ | refine goR rfl ?_ | refine goX rfl ?_ | refine goY rfl ?_ | refine goA rfl ?_ | refine any_run ?_ | refine any_nil (by kernel_rfl) rfl ?_)
  refine run_loopF rfl ?_
  repeat' (first | refine goM rfl ?_ | refine goR rfl ?_ | refine goX rfl ?_ | refine goY rfl ?_ | refine goA rfl ?_ | refine any_run ?_ | refine any_nil (by kernel_rfl) rfl ?_ | refine goC (huse) rfl rfl rfl rfl ?_ | refine goC (hcor) rfl rfl rfl rfl ?_)
  (first | refine run_ret rfl ?_ | refine run_done rfl ?_)
  rfl
theorem IsHouse_z' (l : List Lis) (d : List Mea) (hl : l.length ≤ 1048576) (hd : d.length ≤ 1048576) : CallsOK PP F_spec_IsHouse [.agg (zHou (dLiss l) (dMeas d))] [.v (.bool (houOk l d))] := by
  refine S_spec_IsHouse rfl (Nat.le_of_ble_eq_true rfl) ?_
  repeat' (first | refine goM rfl ?_ | refine goR rfl ?_ | refine goX rfl ?_ | refine goY rfl ?_ | refine goA rfl ?_ | refine any_run ?_ | refine any_nil (by kernel_rfl) rfl ?_)
  refine run_loopF rfl ?_
  repeat' (first | refine goM rfl ?_ | refine goR rfl ?_ | refine goX rfl ?_ | refine goY rfl ?_ | refine goA rfl ?_ | refine any_run ?_ | refine any_nil (by kernel_rfl) rfl ?_)
  refine goC (IsList_ok' l hl) rfl rfl rfl rfl ?_
  generalize hA : (decide (l.length ≤ 40) && allI (lisOk l) l 0) = b1
  cases b1
  · repeat' (first | refine goM rfl ?_ | refine goR rfl ?_ | refine goX rfl ?_ | refine goY rfl ?_ | refine goA rfl ?_ | refine any_run ?_ | refine any_nil (by kernel_rfl) rfl ?_)
    (first | refine run_ret rfl ?_ | refine run_done rfl ?_)
    simp only [houOk, isList, hA]; rfl
  · repeat' (first | refine goM rfl ?_ | refine goR rfl ?_ | refine goX rfl ?_ | refine goY rfl ?_ | refine goA rfl ?_ | refine any_run ?_ | refine any_nil (by kernel_rfl) rfl ?_)
    refine goC (IsDictionary_ok' d hd) rfl rfl rfl rfl ?_
    generalize hB : (decide (d.length ≤ 40) && allI (meaOk d) d 0) = b2
    cases b2
    · repeat' (first | refine goM rfl ?_ | refine goR rfl ?_ | refine goX rfl ?_ | refine goY rfl ?_ | refine goA rfl ?_ | refine any_run ?_ | refine any_nil (by kernel_rfl) rfl ?_)
      (first | refine run_ret rfl ?_ | refine run_done rfl ?_)
      simp only [houOk, isList, hA, hB]; rfl
    · repeat' (first | refine goM rfl ?_ | refine goR rfl ?_ | refine goX rfl ?_ | refine goY rfl ?_ | refine goA rfl ?_ | refine any_run ?_ | refine any_nil (by kernel_rfl) rfl ?_ | refine goC (l33Zero_z) rfl rfl rfl rfl ?_ | refine goC (l33Rest_z l d) rfl rfl rfl rfl ?_ | refine goC (l1In_ok 0 0 1000) rfl rfl rfl rfl ?_)
      (first | refine run_ret rfl ?_ | refine run_done rfl ?_)
      simp only [houOk, isList, hA, hB]; rfl
theorem NewHouse_ok' (l : List Lis) (d : List Mea) (hl : l.length ≤ 1048576) (hd : d.length ≤ 1048576) : CallsOK PP F_spec_NewHouse [.v (dLiss l), .v (dMeas d)] [.agg (if houOk l d then zHou (dLiss l) (dMeas d) else zHou (.sl 4 []) (.sl 2 [])), .v (.bool (houOk l d))] := by
  refine S_spec_NewHouse ?_ (Nat.le_of_ble_eq_true rfl) ?_
  · cases houOk l d <;> rfl
  repeat' (first | refine goM rfl ?_ | refine goR rfl ?_ | refine goX rfl ?_ | refine goY rfl ?_ | refine goA rfl ?_ | refine any_run ?_ | refine any_nil (by kernel_rfl) rfl ?_ | refine goC (l33Copy_z (l.map rLis) (d.map rMea) (by simpa using hl) (by simpa using hd)) rfl rfl rfl rfl ?_ | refine goC (IsHouse_z' l d hl hd) rfl rfl rfl rfl ?_)
  generalize hA : houOk l d = b1
  cases b1
  · repeat' (first | refine goM rfl ?_ | refine goR rfl ?_ | refine goX rfl ?_ | refine goY rfl ?_ | refine goA rfl ?_ | refine any_run ?_ | refine any_nil (by kernel_rfl) rfl ?_)
    (first | refine run_ret rfl ?_ | refine run_done rfl ?_)
    rfl
  · repeat' (first | refine goM rfl ?_ | refine goR rfl ?_ | refine goX rfl ?_ | refine goY rfl ?_ | refine goA rfl ?_ | refine any_run ?_ | refine any_nil (by kernel_rfl) rfl ?_)
    (first | refine run_ret rfl ?_ | refine run_done rfl ?_)
    rfl
theorem free_lis (l : List Lis) : freeRows (l.map rLis) = true := by
  induction l with
  | nil => rfl
  | cons x l ih => simp only [List.map_cons, freeRows, ih, Bool.and_true]; rfl
theorem free_mea (l : List Mea) : freeRows (l.map rMea) = true := by
  induction l with
  | nil => rfl
  | cons x l ih => simp only [List.map_cons, freeRows, ih, Bool.and_true]; rfl
theorem frz_lis (l : List Lis) : frzRows (l.map rLis) = l.map rLis := by
  induction l with
  | nil => rfl
  | cons x l ih => simp only [List.map_cons, frzRows, ih]; rfl
theorem frz_mea (l : List Mea) : frzRows (l.map rMea) = l.map rMea := by
  induction l with
  | nil => rfl
  | cons x l ih => simp only [List.map_cons, frzRows, ih]; rfl
theorem vw_same {E : Env} : ∀ (ds : List DV), All2 (VwD E) ds ds
  | [] => trivial
  | d :: ds => ⟨.same d, vw_same ds⟩
theorem NewHouse_yes (l : List Lis) (d : List Mea) (hl : l.length ≤ 1048576) (hd : d.length ≤ 1048576) (hA : houOk l d = true) :
    CallsH PP F_impl_NewHouse [] [⟨T_impl_Listed, 4, 40, l.map rLis⟩, ⟨T_impl_Meaning, 2, 24, d.map rMea⟩] (fun _ => [.v (dLiss l), .v (dMeas d)]) (fun u => [.agg (zHou (.val (u 0)) (.val (u 1))), .v (.bool true)]) := by
  refine SH_impl_NewHouse [] [1000, 1001] (fun _ => rfl) (fun _ => ⟨Nat.le_of_ble_eq_true rfl, by simp⟩) (by simp) (by simp) (fun u => ?_)
  repeat' (first | refine goM rfl ?_ | refine goR rfl ?_ | refine goX rfl ?_ | refine goY rfl ?_ | refine goA rfl ?_ | refine any_run ?_ | refine any_nil (by kernel_rfl) rfl ?_)
  refine mid_callV2 (res := fun v v2 => [.agg (zHou (.val v) (.val v2))]) 1000 1001 (copyHouse_z (l.map rLis) (d.map rMea) (by simpa using hl) (by simpa using hd) (free_lis l) (free_mea d)) rfl rfl (vwA_same _) (fun _ _ => rfl) (fun _ _ => rfl) (fun _ _ => rfl) (free_lis l) (free_mea d) rfl rfl (by decide) rfl (by decide) (fun v v2 bs bs2 => ?_)
  repeat' (first | refine goM rfl ?_ | refine goR rfl ?_ | refine goX rfl ?_ | refine goY rfl ?_ | refine goA rfl ?_ | refine any_run ?_ | refine any_nil (by kernel_rfl) rfl ?_)
  refine mid_callV0 (IsHouse_z l d hl hd) rfl rfl ⟨.agg ⟨.heap (m := 1000) rfl (frz_lis l), .heap (m := 1001) rfl (frz_mea d), vw_same _⟩, trivial⟩ rfl rfl rfl rfl ?_
  rw [hA]
  repeat' (first | refine goM rfl ?_ | refine goR rfl ?_ | refine goX rfl ?_ | refine goY rfl ?_ | refine goA rfl ?_ | refine any_run ?_ | refine any_nil (by kernel_rfl) rfl ?_)
  refine RunQ.ret ?_
  exact ⟨(fun i => if i = 0 then v else v2, fun i => if i = 0 then bs else bs2), rfl, by simp, rfl, rfl, trivial⟩
theorem NewHouse_no (l : List Lis) (d : List Mea) (hl : l.length ≤ 1048576) (hd : d.length ≤ 1048576) (hA : houOk l d = false) :
    CallsOK PP F_impl_NewHouse [.v (dLiss l), .v (dMeas d)] [.agg (zHou (.sl 4 []) (.sl 2 [])), .v (.bool false)] := by
  refine S_impl_NewHouse rfl (Nat.le_of_ble_eq_true rfl) ?_
  repeat' (first | refine goM rfl ?_ | refine goR rfl ?_ | refine goX rfl ?_ | refine goY rfl ?_ | refine goA rfl ?_ | refine any_run ?_ | refine any_nil (by kernel_rfl) rfl ?_)
  refine mid_callV2 (res := fun v v2 => [.agg (zHou (.val v) (.val v2))]) 1000 1001 (copyHouse_z (l.map rLis) (d.map rMea) (by simpa using hl) (by simpa using hd) (free_lis l) (free_mea d)) rfl rfl (vwA_same _) (fun _ _ => rfl) (fun _ _ => rfl) (fun _ _ => rfl) (free_lis l) (free_mea d) rfl rfl (by decide) rfl (by decide) (fun v v2 bs bs2 => ?_)
  repeat' (first | refine goM rfl ?_ | refine goR rfl ?_ | refine goX rfl ?_ | refine goY rfl ?_ | refine goA rfl ?_ | refine any_run ?_ | refine any_nil (by kernel_rfl) rfl ?_)
  refine mid_callV0 (IsHouse_z l d hl hd) rfl rfl ⟨.agg ⟨.heap (m := 1000) rfl (frz_lis l), .heap (m := 1001) rfl (frz_mea d), vw_same _⟩, trivial⟩ rfl rfl rfl rfl ?_
  rw [hA]
  repeat' (first | refine goM rfl ?_ | refine goR rfl ?_ | refine goX rfl ?_ | refine goY rfl ?_ | refine goA rfl ?_ | refine any_run ?_ | refine any_nil (by kernel_rfl) rfl ?_)
  (first | refine run_ret rfl ?_ | refine run_done rfl ?_)
  rfl
end Go.Rd

namespace Go.Rd
open Go.Proofs
set_option linter.unusedSimpArgs false
set_option linter.unusedVariables false
set_option maxRecDepth 10000
set_option maxHeartbeats 1000000

abbrev hNo : Env := [(1000, .undef), (1001, .undef), (1002, .undef), (1003, .undef), (1004, .undef), (1005, .undef), (1006, .undef), (1007, .undef), (1008, .undef), (1009, .undef)]
theorem markLoop : ∀ (k : Nat) (out : Str), out.length + k ≤ 1125899906842624 → ∃ s : Str, L_laws_markText_0 PP (fun E => resOf E [.tmp 2] = some [.v (.str s)]) ((0, .v (.int .i64 k)) :: (3, .v (.str out)) :: hNo) := by
  intro k
  induction k using Nat.strongRecOn with
  | _ k ih =>
    intro out hk
    have hq : IntKind.i64.wrap ((k : Int).tdiv 10) = ((k / 10 : Nat) : Int) := by
      rw [show ((k : Int).tdiv 10) = ((k / 10 : Nat) : Int) by rw [Int.tdiv_eq_ediv_of_nonneg (by omega)]; omega, w64 (by omega) (by omega)]
    rcases Nat.eq_zero_or_pos k with hz | hpos
    · refine ⟨109 :: out, ?_⟩
      repeat' (first | refine goM rfl ?_ | refine goR rfl ?_ | refine goX rfl ?_ | refine goY rfl ?_ | refine goA rfl ?_ | refine any_run ?_ | refine any_nil (by kernel_rfl) rfl ?_)
      refine run_cnd rfl (fun h => ?_) (fun h => ?_)
      · have := of_decide_eq_true h; omega
      repeat' (first | refine mid_cat (s := [109]) (t := out) rfl rfl (by simp; omega) rfl ?_ | refine goM rfl ?_ | refine goR rfl ?_ | refine goX rfl ?_ | refine goY rfl ?_ | refine goA rfl ?_ | refine any_run ?_ | refine any_nil (by kernel_rfl) rfl ?_)
      (first | refine run_ret rfl ?_ | refine run_done rfl ?_)
      rfl
    · obtain ⟨s, hs⟩ := ih (k / 10) (by omega) (UInt8.ofNat (IntKind.u8.wrap (IntKind.i64.wrap (48 + (k : Int).tmod 10))).toNat :: out) (by simp; omega)
      refine ⟨s, ?_⟩
      repeat' (first | refine goM rfl ?_ | refine goR rfl ?_ | refine goX rfl ?_ | refine goY rfl ?_ | refine goA rfl ?_ | refine any_run ?_ | refine any_nil (by kernel_rfl) rfl ?_)
      refine run_cnd rfl (fun h => ?_) (fun h => ?_)
      · repeat' (first | refine mid_rem (q := (k : Int).tmod 10) rfl rfl (by decide) rfl rfl ?_ | refine mid_b2s rfl rfl rfl ?_ | refine mid_cat (t := out) rfl rfl (by simp; omega) rfl ?_ | refine mid_quo rfl rfl (by decide) hq rfl ?_ | refine goM rfl ?_ | refine goR rfl ?_ | refine goX rfl ?_ | refine goY rfl ?_ | refine goA rfl ?_ | refine any_run ?_ | refine any_nil (by kernel_rfl) rfl ?_)
        exact run_backF rfl hs
      · have := of_decide_eq_false h; omega
theorem markText_ex (k : Nat) (hk : k ≤ 1099511627776) : ∃ s : Str, CallsOK PP F_laws_markText [.v (.int .i64 k)] [.v (.str s)] := by
  obtain ⟨s, hs⟩ := markLoop k [] (by simp; omega)
  rcases Nat.eq_zero_or_pos k with hz | hpos
  · refine ⟨[109, 48], S_laws_markText rfl (Nat.le_of_ble_eq_true rfl) ?_⟩
    repeat' (first | refine goM rfl ?_ | refine goR rfl ?_ | refine goX rfl ?_ | refine goY rfl ?_ | refine goA rfl ?_ | refine any_run ?_ | refine any_nil (by kernel_rfl) rfl ?_)
    refine run_cnd rfl (fun h => ?_) (fun h => ?_)
    · repeat' (first | refine goM rfl ?_ | refine goR rfl ?_ | refine goX rfl ?_ | refine goY rfl ?_ | refine goA rfl ?_ | refine any_run ?_ | refine any_nil (by kernel_rfl) rfl ?_)
      (first | refine run_ret rfl ?_ | refine run_done rfl ?_)
      rfl
    · have := of_decide_eq_false h; omega
  · refine ⟨s, S_laws_markText rfl (Nat.le_of_ble_eq_true rfl) ?_⟩
    repeat' (first | refine goM rfl ?_ | refine goR rfl ?_ | refine goX rfl ?_ | refine goY rfl ?_ | refine goA rfl ?_ | refine any_run ?_ | refine any_nil (by kernel_rfl) rfl ?_)
    refine run_cnd rfl (fun h => ?_) (fun h => ?_)
    · have := of_decide_eq_true h; omega
    · repeat' (first | refine goM rfl ?_ | refine goR rfl ?_ | refine goX rfl ?_ | refine goY rfl ?_ | refine goA rfl ?_ | refine any_run ?_ | refine any_nil (by kernel_rfl) rfl ?_)
      exact run_loopF rfl hs
/-- The text of a mark. -/
noncomputable def markT (k : Nat) : Str := Classical.epsilon fun s => CallsOK PP F_laws_markText [.v (.int .i64 k)] [.v (.str s)]
theorem markText_ok (k : Nat) (hk : k ≤ 1099511627776) : CallsOK PP F_laws_markText [.v (.int .i64 k)] [.v (.str (markT k))] := Classical.epsilon_spec (markText_ex k hk)
end Go.Rd

namespace Go.Rd
open Go.Proofs
set_option linter.unusedSimpArgs false
set_option linter.unusedVariables false
set_option maxRecDepth 10000
set_option maxHeartbeats 1000000

noncomputable def mkLis (k i : Nat) : Lis := ⟨markT (k + 4 * i), (k + 4 * i + 1 : Nat), (k + 4 * i + 2 : Nat), (k + 4 * i + 3 : Nat)⟩
noncomputable def mkMea (k i : Nat) : Mea := ⟨markT (k + 2 * i), (k + 2 * i + 1 : Nat)⟩

theorem markListedS_ok (xs : List Lis) (k0 : Nat) (hx : xs.length ≤ 1048576) (hk0 : k0 ≤ 4294967296) :
    CallsH PP F_laws_markListedS [⟨T_impl_Listed, 4, 40, xs.map rLis⟩] [⟨T_impl_Listed, 4, 40, ((List.range xs.length).map (mkLis k0)).map rLis⟩] (fun u => [.v (.val (u 0)), .v (.int .i64 k0)]) (fun _ => [.v (.int .i64 ((k0 + 4 * xs.length : Nat) : Int))]) := by
  refine SH_laws_markListedS [1000] [1000] (fun _ => rfl) (fun _ => ⟨Nat.le_of_ble_eq_true rfl, by simp⟩) (by simp) (by simp) (fun u => ?_)
  obtain ⟨uv, ub⟩ := u
  have key : ∀ n : Nat, ∀ bs, n ≤ xs.length → L_laws_markListedS_0 PP (fun E => ∃ u' : Gh, resP E [.tmp 4] = some [.v (.int .i64 ((k0 + 4 * xs.length : Nat) : Int))] ∧ (∀ i, i < 1 → u'.1 i = uv i) ∧ GetH E (fun i => decide (1 ≤ i)) u' [1000] [⟨T_impl_Listed, 4, 40, ((List.range xs.length).map (mkLis k0)).map rLis⟩] 0)
      [(0, .v (.val (uv 0))), (1, .v (.int .i64 ((k0 + 4 * n : Nat) : Int))), (5, .v (.int .i64 n)), (1000, .heap false (uv 0) bs T_impl_Listed 4 40 ((mkUpto (mkLis k0) xs n).map rLis)), (1001, .undef), (1002, .undef), (1003, .undef), (1004, .undef), (1005, .undef), (1006, .undef), (1007, .undef), (1008, .undef), (1009, .undef)] := up xs.length (fun n ih bs hn => ?_)
  · repeat' (first | refine goM rfl ?_ | refine goR rfl ?_ | refine goX rfl ?_ | refine goY rfl ?_ | refine goA rfl ?_ | refine any_run ?_ | refine any_nil (by kernel_rfl) rfl ?_)
    refine run_loopF rfl ?_
    have := key 0 (ub 0) (Nat.zero_le _)
    rw [mkUpto_zero] at this
    exact this
  · repeat' (first | refine mid_lenH (m := 1000) rfl rfl rfl ?_ | refine goM rfl ?_ | refine goR rfl ?_ | refine goX rfl ?_ | refine goY rfl ?_ | refine goA rfl ?_ | refine any_run ?_ | refine any_nil (by kernel_rfl) rfl ?_)
    rw [List.length_map, mkUpto_len _ _ _ hn]
    refine run_cnd_lt rfl (fun hk => ?_) (fun hk => ?_)
    · have hlen : n < (mkUpto (mkLis k0) xs n).length := by rw [mkUpto_len _ _ _ hn]; exact hk
      rw [← mkUpto_self _ _ _ hk]
      have w1 : IntKind.i64.wrap (((k0 + 4 * n : Nat) : Int) + 1) = ((k0 + 4 * n + 1 : Nat) : Int) := wsucc (by omega)
      have w2 : IntKind.i64.wrap (((k0 + 4 * n + 1 : Nat) : Int) + 1) = ((k0 + 4 * n + 2 : Nat) : Int) := wsucc (by omega)
      have w3 : IntKind.i64.wrap (((k0 + 4 * n + 2 : Nat) : Int) + 1) = ((k0 + 4 * n + 3 : Nat) : Int) := wsucc (by omega)
      have w4 : IntKind.i64.wrap (((k0 + 4 * n + 3 : Nat) : Int) + 1) = ((k0 + 4 * (n + 1) : Nat) : Int) := wsucc (by omega)
      repeat' (first | refine mid_idxHs (m := 1000) rfl rfl rfl hlen rfl ?_ | refine mid_fldH rfl rfl ?_ | refine goM rfl ?_ | refine goR rfl ?_ | refine goX rfl ?_ | refine goY rfl ?_ | refine goA rfl ?_ | refine any_run ?_ | refine any_nil (by kernel_rfl) rfl ?_ | refine goC (markText_ok (k0 + 4 * n) (by omega)) rfl rfl rfl rfl ?_)
      refine mid_stoHs (y := (⟨markT (k0 + 4 * n), xs[n].frm, xs[n].til, xs[n].score⟩ : Lis)) hlen rfl rfl rfl rfl rfl rfl rfl ?_
      repeat' (first | refine mid_idxHs (m := 1000) rfl rfl rfl hlen rfl ?_ | refine mid_fldH rfl rfl ?_ | refine goM rfl ?_ | refine goR rfl ?_ | refine goX rfl ?_ | refine goY rfl ?_ | refine goA rfl ?_ | refine any_run ?_ | refine any_nil (by kernel_rfl) rfl ?_)
      rw [w1]
      refine mid_stoHs (y := (⟨markT (k0 + 4 * n), (k0 + 4 * n + 1 : Nat), xs[n].til, xs[n].score⟩ : Lis)) hlen rfl rfl rfl rfl rfl rfl rfl ?_
      repeat' (first | refine mid_idxHs (m := 1000) rfl rfl rfl hlen rfl ?_ | refine mid_fldH rfl rfl ?_ | refine goM rfl ?_ | refine goR rfl ?_ | refine goX rfl ?_ | refine goY rfl ?_ | refine goA rfl ?_ | refine any_run ?_ | refine any_nil (by kernel_rfl) rfl ?_)
      rw [w2]
      refine mid_stoHs (y := (⟨markT (k0 + 4 * n), (k0 + 4 * n + 1 : Nat), (k0 + 4 * n + 2 : Nat), xs[n].score⟩ : Lis)) hlen rfl rfl rfl rfl rfl rfl rfl ?_
      repeat' (first | refine mid_idxHs (m := 1000) rfl rfl rfl hlen rfl ?_ | refine mid_fldH rfl rfl ?_ | refine goM rfl ?_ | refine goR rfl ?_ | refine goX rfl ?_ | refine goY rfl ?_ | refine goA rfl ?_ | refine any_run ?_ | refine any_nil (by kernel_rfl) rfl ?_)
      rw [w3]
      refine mid_stoHs (y := mkLis k0 n) hlen rfl rfl rfl rfl rfl rfl rfl ?_
      rw [mkUpto_set _ _ _ hk]
      repeat' (first | refine goM rfl ?_ | refine goR rfl ?_ | refine goX rfl ?_ | refine goY rfl ?_ | refine goA rfl ?_ | refine any_run ?_ | refine any_nil (by kernel_rfl) rfl ?_)
      rw [w4, wsucc (show n < 9223372036854775807 by omega)]
      refine run_backF rfl ?_
      exact ih hk bs (by omega)
    · have e : n = xs.length := by omega
      subst e
      rw [mkUpto_end]
      repeat' (first | refine goM rfl ?_ | refine goR rfl ?_ | refine goX rfl ?_ | refine goY rfl ?_ | refine goA rfl ?_ | refine any_run ?_ | refine any_nil (by kernel_rfl) rfl ?_)
      refine RunQ.ret ?_
      exact ⟨(uv, fun _ => bs), rfl, by simp, rfl, trivial⟩
theorem markMeaningS_ok (xs : List Mea) (k0 : Nat) (hx : xs.length ≤ 1048576) (hk0 : k0 ≤ 4294967296) :
    CallsH PP F_laws_markMeaningS [⟨T_impl_Meaning, 2, 24, xs.map rMea⟩] [⟨T_impl_Meaning, 2, 24, ((List.range xs.length).map (mkMea k0)).map rMea⟩] (fun u => [.v (.val (u 0)), .v (.int .i64 k0)]) (fun _ => [.v (.int .i64 ((k0 + 2 * xs.length : Nat) : Int))]) := by
  refine SH_laws_markMeaningS [1000] [1000] (fun _ => rfl) (fun _ => ⟨Nat.le_of_ble_eq_true rfl, by simp⟩) (by simp) (by simp) (fun u => ?_)
  obtain ⟨uv, ub⟩ := u
  have key : ∀ n : Nat, ∀ bs, n ≤ xs.length → L_laws_markMeaningS_0 PP (fun E => ∃ u' : Gh, resP E [.tmp 4] = some [.v (.int .i64 ((k0 + 2 * xs.length : Nat) : Int))] ∧ (∀ i, i < 1 → u'.1 i = uv i) ∧ GetH E (fun i => decide (1 ≤ i)) u' [1000] [⟨T_impl_Meaning, 2, 24, ((List.range xs.length).map (mkMea k0)).map rMea⟩] 0)
      [(0, .v (.val (uv 0))), (1, .v (.int .i64 ((k0 + 2 * n : Nat) : Int))), (5, .v (.int .i64 n)), (1000, .heap false (uv 0) bs T_impl_Meaning 2 24 ((mkUpto (mkMea k0) xs n).map rMea)), (1001, .undef), (1002, .undef), (1003, .undef), (1004, .undef), (1005, .undef), (1006, .undef), (1007, .undef), (1008, .undef), (1009, .undef)] := up xs.length (fun n ih bs hn => ?_)
  · repeat' (first | refine goM rfl ?_ | refine goR rfl ?_ | refine goX rfl ?_ | refine goY rfl ?_ | refine goA rfl ?_ | refine any_run ?_ | refine any_nil (by kernel_rfl) rfl ?_)
    refine run_loopF rfl ?_
    have := key 0 (ub 0) (Nat.zero_le _)
    rw [mkUpto_zero] at this
    exact this
  · repeat' (first | refine mid_lenH (m := 1000) rfl rfl rfl ?_ | refine goM rfl ?_ | refine goR rfl ?_ | refine goX rfl ?_ | refine goY rfl ?_ | refine goA rfl ?_ | refine any_run ?_ | refine any_nil (by kernel_rfl) rfl ?_)
    rw [List.length_map, mkUpto_len _ _ _ hn]
    refine run_cnd_lt rfl (fun hk => ?_) (fun hk => ?_)
    · have hlen : n < (mkUpto (mkMea k0) xs n).length := by rw [mkUpto_len _ _ _ hn]; exact hk
      rw [← mkUpto_self _ _ _ hk]
      have w1 : IntKind.i64.wrap (((k0 + 2 * n : Nat) : Int) + 1) = ((k0 + 2 * n + 1 : Nat) : Int) := wsucc (by omega)
      have w4 : IntKind.i64.wrap (((k0 + 2 * n + 1 : Nat) : Int) + 1) = ((k0 + 2 * (n + 1) : Nat) : Int) := wsucc (by omega)
      repeat' (first | refine mid_idxHs (m := 1000) rfl rfl rfl hlen rfl ?_ | refine mid_fldH rfl rfl ?_ | refine goM rfl ?_ | refine goR rfl ?_ | refine goX rfl ?_ | refine goY rfl ?_ | refine goA rfl ?_ | refine any_run ?_ | refine any_nil (by kernel_rfl) rfl ?_ | refine goC (markText_ok (k0 + 2 * n) (by omega)) rfl rfl rfl rfl ?_)
      refine mid_stoHs (y := (⟨markT (k0 + 2 * n), xs[n].sense⟩ : Mea)) hlen rfl rfl rfl rfl rfl rfl rfl ?_
      repeat' (first | refine mid_idxHs (m := 1000) rfl rfl rfl hlen rfl ?_ | refine mid_fldH rfl rfl ?_ | refine goM rfl ?_ | refine goR rfl ?_ | refine goX rfl ?_ | refine goY rfl ?_ | refine goA rfl ?_ | refine any_run ?_ | refine any_nil (by kernel_rfl) rfl ?_)
      rw [w1]
      refine mid_stoHs (y := mkMea k0 n) hlen rfl rfl rfl rfl rfl rfl rfl ?_
      rw [mkUpto_set _ _ _ hk]
      repeat' (first | refine goM rfl ?_ | refine goR rfl ?_ | refine goX rfl ?_ | refine goY rfl ?_ | refine goA rfl ?_ | refine any_run ?_ | refine any_nil (by kernel_rfl) rfl ?_)
      rw [w4, wsucc (show n < 9223372036854775807 by omega)]
      refine run_backF rfl ?_
      exact ih hk bs (by omega)
    · have e : n = xs.length := by omega
      subst e
      rw [mkUpto_end]
      repeat' (first | refine goM rfl ?_ | refine goR rfl ?_ | refine goX rfl ?_ | refine goY rfl ?_ | refine goA rfl ?_ | refine any_run ?_ | refine any_nil (by kernel_rfl) rfl ?_)
      refine RunQ.ret ?_
      exact ⟨(uv, fun _ => bs), rfl, by simp, rfl, trivial⟩

theorem rangeMap_get {α : Type} (f : Nat → α) {n i : Nat} (h : i < n) : ((List.range n).map f)[i]'(by simpa using h) = f i := by simp
theorem heldListedS_ok (c k0 : Nat) (hc : c ≤ 1048576) (hk0 : k0 ≤ 4294967296) :
    CallsOK PP F_laws_heldListedS [.v (.sl 4 (((List.range c).map (mkLis k0)).map rLis)), .v (.int .i64 k0)] [.v (.int .i64 ((k0 + 4 * c : Nat) : Int))] := by
  refine S_laws_heldListedS rfl (Nat.le_of_ble_eq_true rfl) ?_
  have hl : ((List.range c).map (mkLis k0)).length = c := by simp
  have key : ∀ n : Nat, n ≤ c → L_laws_heldListedS_0 PP [(0, .v (.sl 4 (((List.range c).map (mkLis k0)).map rLis))), (1, .v (.int .i64 ((k0 + 4 * n : Nat) : Int))), (5, .v (.int .i64 n))] [.v (.int .i64 ((k0 + 4 * c : Nat) : Int))] := up c (fun n ih hn => ?_)
  · repeat' (first | refine goM rfl ?_ | refine goR rfl ?_ | refine goX rfl ?_ | refine goY rfl ?_ | refine goA rfl ?_ | refine any_run ?_ | refine any_nil (by kernel_rfl) rfl ?_)
    refine run_loopF rfl ?_
    exact key 0 (Nat.zero_le _)
  · repeat' (first | refine goM rfl ?_ | refine goR rfl ?_ | refine goX rfl ?_ | refine goY rfl ?_ | refine goA rfl ?_ | refine any_run ?_ | refine any_nil (by kernel_rfl) rfl ?_)
    rw [List.length_map, hl]
    refine run_cnd_lt rfl (fun hk => ?_) (fun hk => ?_)
    · have w1 : IntKind.i64.wrap (((k0 + 4 * n : Nat) : Int) + 1) = ((k0 + 4 * n + 1 : Nat) : Int) := wsucc (by omega)
      have w2 : IntKind.i64.wrap (((k0 + 4 * n + 1 : Nat) : Int) + 1) = ((k0 + 4 * n + 2 : Nat) : Int) := wsucc (by omega)
      have w3 : IntKind.i64.wrap (((k0 + 4 * n + 2 : Nat) : Int) + 1) = ((k0 + 4 * n + 3 : Nat) : Int) := wsucc (by omega)
      have w4 : IntKind.i64.wrap (((k0 + 4 * n + 3 : Nat) : Int) + 1) = ((k0 + 4 * (n + 1) : Nat) : Int) := wsucc (by omega)
      have hkl : n < ((List.range c).map (mkLis k0)).length := by rw [hl]; exact hk
      have hrow : rLis (((List.range c).map (mkLis k0))[n]'hkl) = [dS (markT (k0 + 4 * n)), dI ((k0 + 4 * n + 1 : Nat) : Int), dI ((k0 + 4 * n + 2 : Nat) : Int), dI ((k0 + 4 * n + 3 : Nat) : Int)] := by rw [rangeMap_get _ hk]; rfl
      repeat' (first | refine mid_idxm rfl rfl hkl rfl ?_ | rw [hrow] | refine run_neS rfl ?_ | refine run_neI rfl ?_ | refine goM rfl ?_ | refine goR rfl ?_ | refine goX rfl ?_ | refine goY rfl ?_ | refine goA rfl ?_ | refine any_run ?_ | refine any_nil (by kernel_rfl) rfl ?_ | refine goC (markText_ok (k0 + 4 * n) (by omega)) rfl rfl rfl rfl ?_)
      rw [w1]
      repeat' (first | refine mid_idxm rfl rfl hkl rfl ?_ | rw [hrow] | refine run_neS rfl ?_ | refine run_neI rfl ?_ | refine goM rfl ?_ | refine goR rfl ?_ | refine goX rfl ?_ | refine goY rfl ?_ | refine goA rfl ?_ | refine any_run ?_ | refine any_nil (by kernel_rfl) rfl ?_)
      rw [w2]
      repeat' (first | refine mid_idxm rfl rfl hkl rfl ?_ | rw [hrow] | refine run_neS rfl ?_ | refine run_neI rfl ?_ | refine goM rfl ?_ | refine goR rfl ?_ | refine goX rfl ?_ | refine goY rfl ?_ | refine goA rfl ?_ | refine any_run ?_ | refine any_nil (by kernel_rfl) rfl ?_)
      rw [w3]
      repeat' (first | refine mid_idxm rfl rfl hkl rfl ?_ | rw [hrow] | refine run_neS rfl ?_ | refine run_neI rfl ?_ | refine goM rfl ?_ | refine goR rfl ?_ | refine goX rfl ?_ | refine goY rfl ?_ | refine goA rfl ?_ | refine any_run ?_ | refine any_nil (by kernel_rfl) rfl ?_)
      rw [w4, wsucc (show n < 9223372036854775807 by omega)]
      refine run_backF rfl ?_
      exact ih hk (by omega)
    · have e : n = c := by omega
      subst e
      repeat' (first | refine goM rfl ?_ | refine goR rfl ?_ | refine goX rfl ?_ | refine goY rfl ?_ | refine goA rfl ?_ | refine any_run ?_ | refine any_nil (by kernel_rfl) rfl ?_)
      (first | refine run_ret rfl ?_ | refine run_done rfl ?_)
      rfl
theorem heldMeaningS_ok (c k0 : Nat) (hc : c ≤ 1048576) (hk0 : k0 ≤ 4294967296) :
    CallsOK PP F_laws_heldMeaningS [.v (.sl 2 (((List.range c).map (mkMea k0)).map rMea)), .v (.int .i64 k0)] [.v (.int .i64 ((k0 + 2 * c : Nat) : Int))] := by
  refine S_laws_heldMeaningS rfl (Nat.le_of_ble_eq_true rfl) ?_
  have hl : ((List.range c).map (mkMea k0)).length = c := by simp
  have key : ∀ n : Nat, n ≤ c → L_laws_heldMeaningS_0 PP [(0, .v (.sl 2 (((List.range c).map (mkMea k0)).map rMea))), (1, .v (.int .i64 ((k0 + 2 * n : Nat) : Int))), (5, .v (.int .i64 n))] [.v (.int .i64 ((k0 + 2 * c : Nat) : Int))] := up c (fun n ih hn => ?_)
  · repeat' (first | refine goM rfl ?_ | refine goR rfl ?_ | refine goX rfl ?_ | refine goY rfl ?_ | refine goA rfl ?_ | refine any_run ?_ | refine any_nil (by kernel_rfl) rfl ?_)
    refine run_loopF rfl ?_
    exact key 0 (Nat.zero_le _)
  · repeat' (first | refine goM rfl ?_ | refine goR rfl ?_ | refine goX rfl ?_ | refine goY rfl ?_ | refine goA rfl ?_ | refine any_run ?_ | refine any_nil (by kernel_rfl) rfl ?_)
    rw [List.length_map, hl]
    refine run_cnd_lt rfl (fun hk => ?_) (fun hk => ?_)
    · have w1 : IntKind.i64.wrap (((k0 + 2 * n : Nat) : Int) + 1) = ((k0 + 2 * n + 1 : Nat) : Int) := wsucc (by omega)
      have w4 : IntKind.i64.wrap (((k0 + 2 * n + 1 : Nat) : Int) + 1) = ((k0 + 2 * (n + 1) : Nat) : Int) := wsucc (by omega)
      have hkl : n < ((List.range c).map (mkMea k0)).length := by rw [hl]; exact hk
      have hrow : rMea (((List.range c).map (mkMea k0))[n]'hkl) = [dS (markT (k0 + 2 * n)), dI ((k0 + 2 * n + 1 : Nat) : Int)] := by rw [rangeMap_get _ hk]; rfl
      repeat' (first | refine mid_idxm rfl rfl hkl rfl ?_ | rw [hrow] | refine run_neS rfl ?_ | refine run_neI rfl ?_ | refine goM rfl ?_ | refine goR rfl ?_ | refine goX rfl ?_ | refine goY rfl ?_ | refine goA rfl ?_ | refine any_run ?_ | refine any_nil (by kernel_rfl) rfl ?_ | refine goC (markText_ok (k0 + 2 * n) (by omega)) rfl rfl rfl rfl ?_)
      rw [w1]
      repeat' (first | refine mid_idxm rfl rfl hkl rfl ?_ | rw [hrow] | refine run_neS rfl ?_ | refine run_neI rfl ?_ | refine goM rfl ?_ | refine goR rfl ?_ | refine goX rfl ?_ | refine goY rfl ?_ | refine goA rfl ?_ | refine any_run ?_ | refine any_nil (by kernel_rfl) rfl ?_)
      rw [w4, wsucc (show n < 9223372036854775807 by omega)]
      refine run_backF rfl ?_
      exact ih hk (by omega)
    · have e : n = c := by omega
      subst e
      repeat' (first | refine goM rfl ?_ | refine goR rfl ?_ | refine goX rfl ?_ | refine goY rfl ?_ | refine goA rfl ?_ | refine any_run ?_ | refine any_nil (by kernel_rfl) rfl ?_)
      (first | refine run_ret rfl ?_ | refine run_done rfl ?_)
      rfl

theorem markListedS_z (k : Nat) (hk : k ≤ 8589934592) : CallsOK PP F_laws_markListedS [.v (.sl 4 []), .v (.int .i64 k)] [.v (.int .i64 k)] := by
  refine S_laws_markListedS rfl (Nat.le_of_ble_eq_true rfl) ?_
  repeat' (first | refine goM rfl ?_ | refine goR rfl ?_ | refine goX rfl ?_ | refine goY rfl ?_ | refine goA rfl ?_ | refine any_run ?_ | refine any_nil (by kernel_rfl) rfl ?_)
  refine run_loopF rfl ?_
  repeat' (first | refine goM rfl ?_ | refine goR rfl ?_ | refine goX rfl ?_ | refine goY rfl ?_ | refine goA rfl ?_ | refine any_run ?_ | refine any_nil (by kernel_rfl) rfl ?_)
  (first | refine run_ret rfl ?_ | refine run_done rfl ?_)
  rfl
theorem markMeaningS_z (k : Nat) (hk : k ≤ 8589934592) : CallsOK PP F_laws_markMeaningS [.v (.sl 2 []), .v (.int .i64 k)] [.v (.int .i64 k)] := by
  refine S_laws_markMeaningS rfl (Nat.le_of_ble_eq_true rfl) ?_
  repeat' (first | refine goM rfl ?_ | refine goR rfl ?_ | refine goX rfl ?_ | refine goY rfl ?_ | refine goA rfl ?_ | refine any_run ?_ | refine any_nil (by kernel_rfl) rfl ?_)
  refine run_loopF rfl ?_
  repeat' (first | refine goM rfl ?_ | refine goR rfl ?_ | refine goX rfl ?_ | refine goY rfl ?_ | refine goA rfl ?_ | refine any_run ?_ | refine any_nil (by kernel_rfl) rfl ?_)
  (first | refine run_ret rfl ?_ | refine run_done rfl ?_)
  rfl
theorem markClueS_z (k : Nat) (hk : k ≤ 8589934592) : CallsOK PP F_laws_markClueS [.v (.sl 2 []), .v (.int .i64 k)] [.v (.int .i64 k)] := by
  refine S_laws_markClueS rfl (Nat.le_of_ble_eq_true rfl) ?_
  repeat' (first | refine goM rfl ?_ | refine goR rfl ?_ | refine goX rfl ?_ | refine goY rfl ?_ | refine goA rfl ?_ | refine any_run ?_ | refine any_nil (by kernel_rfl) rfl ?_)
  refine run_loopF rfl ?_
  repeat' (first | refine goM rfl ?_ | refine goR rfl ?_ | refine goX rfl ?_ | refine goY rfl ?_ | refine goA rfl ?_ | refine any_run ?_ | refine any_nil (by kernel_rfl) rfl ?_)
  (first | refine run_ret rfl ?_ | refine run_done rfl ?_)
  rfl
theorem markIssueS_z (k : Nat) (hk : k ≤ 8589934592) : CallsOK PP F_laws_markIssueS [.v (.sl 10 []), .v (.int .i64 k)] [.v (.int .i64 k)] := by
  refine S_laws_markIssueS rfl (Nat.le_of_ble_eq_true rfl) ?_
  repeat' (first | refine goM rfl ?_ | refine goR rfl ?_ | refine goX rfl ?_ | refine goY rfl ?_ | refine goA rfl ?_ | refine any_run ?_ | refine any_nil (by kernel_rfl) rfl ?_)
  refine run_loopF rfl ?_
  repeat' (first | refine goM rfl ?_ | refine goR rfl ?_ | refine goX rfl ?_ | refine goY rfl ?_ | refine goA rfl ?_ | refine any_run ?_ | refine any_nil (by kernel_rfl) rfl ?_)
  (first | refine run_ret rfl ?_ | refine run_done rfl ?_)
  rfl
theorem markUsedS_z (k : Nat) (hk : k ≤ 8589934592) : CallsOK PP F_laws_markUsedS [.v (.sl 2 []), .v (.int .i64 k)] [.v (.int .i64 k)] := by
  refine S_laws_markUsedS rfl (Nat.le_of_ble_eq_true rfl) ?_
  repeat' (first | refine goM rfl ?_ | refine goR rfl ?_ | refine goX rfl ?_ | refine goY rfl ?_ | refine goA rfl ?_ | refine any_run ?_ | refine any_nil (by kernel_rfl) rfl ?_)
  refine run_loopF rfl ?_
  repeat' (first | refine goM rfl ?_ | refine goR rfl ?_ | refine goX rfl ?_ | refine goY rfl ?_ | refine goA rfl ?_ | refine any_run ?_ | refine any_nil (by kernel_rfl) rfl ?_)
  (first | refine run_ret rfl ?_ | refine run_done rfl ?_)
  rfl
theorem markCorrectionS_z (k : Nat) (hk : k ≤ 8589934592) : CallsOK PP F_laws_markCorrectionS [.v (.sl 5 []), .v (.int .i64 k)] [.v (.int .i64 k)] := by
  refine S_laws_markCorrectionS rfl (Nat.le_of_ble_eq_true rfl) ?_
  repeat' (first | refine goM rfl ?_ | refine goR rfl ?_ | refine goX rfl ?_ | refine goY rfl ?_ | refine goA rfl ?_ | refine any_run ?_ | refine any_nil (by kernel_rfl) rfl ?_)
  refine run_loopF rfl ?_
  repeat' (first | refine goM rfl ?_ | refine goR rfl ?_ | refine goX rfl ?_ | refine goY rfl ?_ | refine goA rfl ?_ | refine any_run ?_ | refine any_nil (by kernel_rfl) rfl ?_)
  (first | refine run_ret rfl ?_ | refine run_done rfl ?_)
  rfl
theorem markEntryS_z (k : Nat) (hk : k ≤ 8589934592) : CallsOK PP F_laws_markEntryS [.v (.sl 4 []), .v (.int .i64 k)] [.v (.int .i64 k)] := by
  refine S_laws_markEntryS rfl (Nat.le_of_ble_eq_true rfl) ?_
  repeat' (first | refine goM rfl ?_ | refine goR rfl ?_ | refine goX rfl ?_ | refine goY rfl ?_ | refine goA rfl ?_ | refine any_run ?_ | refine any_nil (by kernel_rfl) rfl ?_)
  refine run_loopF rfl ?_
  repeat' (first | refine goM rfl ?_ | refine goR rfl ?_ | refine goX rfl ?_ | refine goY rfl ?_ | refine goA rfl ?_ | refine any_run ?_ | refine any_nil (by kernel_rfl) rfl ?_)
  (first | refine run_ret rfl ?_ | refine run_done rfl ?_)
  rfl
theorem heldListedS_z (k : Nat) (hk : k ≤ 8589934592) : CallsOK PP F_laws_heldListedS [.v (.sl 4 []), .v (.int .i64 k)] [.v (.int .i64 k)] := by
  refine S_laws_heldListedS rfl (Nat.le_of_ble_eq_true rfl) ?_
  repeat' (first | refine goM rfl ?_ | refine goR rfl ?_ | refine goX rfl ?_ | refine goY rfl ?_ | refine goA rfl ?_ | refine any_run ?_ | refine any_nil (by kernel_rfl) rfl ?_)
  refine run_loopF rfl ?_
  repeat' (first | refine goM rfl ?_ | refine goR rfl ?_ | refine goX rfl ?_ | refine goY rfl ?_ | refine goA rfl ?_ | refine any_run ?_ | refine any_nil (by kernel_rfl) rfl ?_)
  (first | refine run_ret rfl ?_ | refine run_done rfl ?_)
  rfl
theorem heldMeaningS_z (k : Nat) (hk : k ≤ 8589934592) : CallsOK PP F_laws_heldMeaningS [.v (.sl 2 []), .v (.int .i64 k)] [.v (.int .i64 k)] := by
  refine S_laws_heldMeaningS rfl (Nat.le_of_ble_eq_true rfl) ?_
  repeat' (first | refine goM rfl ?_ | refine goR rfl ?_ | refine goX rfl ?_ | refine goY rfl ?_ | refine goA rfl ?_ | refine any_run ?_ | refine any_nil (by kernel_rfl) rfl ?_)
  refine run_loopF rfl ?_
  repeat' (first | refine goM rfl ?_ | refine goR rfl ?_ | refine goX rfl ?_ | refine goY rfl ?_ | refine goA rfl ?_ | refine any_run ?_ | refine any_nil (by kernel_rfl) rfl ?_)
  (first | refine run_ret rfl ?_ | refine run_done rfl ?_)
  rfl
theorem heldClueS_z (k : Nat) (hk : k ≤ 8589934592) : CallsOK PP F_laws_heldClueS [.v (.sl 2 []), .v (.int .i64 k)] [.v (.int .i64 k)] := by
  refine S_laws_heldClueS rfl (Nat.le_of_ble_eq_true rfl) ?_
  repeat' (first | refine goM rfl ?_ | refine goR rfl ?_ | refine goX rfl ?_ | refine goY rfl ?_ | refine goA rfl ?_ | refine any_run ?_ | refine any_nil (by kernel_rfl) rfl ?_)
  refine run_loopF rfl ?_
  repeat' (first | refine goM rfl ?_ | refine goR rfl ?_ | refine goX rfl ?_ | refine goY rfl ?_ | refine goA rfl ?_ | refine any_run ?_ | refine any_nil (by kernel_rfl) rfl ?_)
  (first | refine run_ret rfl ?_ | refine run_done rfl ?_)
  rfl
theorem heldIssueS_z (k : Nat) (hk : k ≤ 8589934592) : CallsOK PP F_laws_heldIssueS [.v (.sl 10 []), .v (.int .i64 k)] [.v (.int .i64 k)] := by
  refine S_laws_heldIssueS rfl (Nat.le_of_ble_eq_true rfl) ?_
  repeat' (first | refine goM rfl ?_ | refine goR rfl ?_ | refine goX rfl ?_ | refine goY rfl ?_ | refine goA rfl ?_ | refine any_run ?_ | refine any_nil (by kernel_rfl) rfl ?_)
  refine run_loopF rfl ?_
  repeat' (first | refine goM rfl ?_ | refine goR rfl ?_ | refine goX rfl ?_ | refine goY rfl ?_ | refine goA rfl ?_ | refine any_run ?_ | refine any_nil (by kernel_rfl) rfl ?_)
  (first | refine run_ret rfl ?_ | refine run_done rfl ?_)
  rfl
theorem heldUsedS_z (k : Nat) (hk : k ≤ 8589934592) : CallsOK PP F_laws_heldUsedS [.v (.sl 2 []), .v (.int .i64 k)] [.v (.int .i64 k)] := by
  refine S_laws_heldUsedS rfl (Nat.le_of_ble_eq_true rfl) ?_
  repeat' (first | refine goM rfl ?_ | refine goR rfl ?_ | refine goX rfl ?_ | refine goY rfl ?_ | refine goA rfl ?_ | refine any_run ?_ | refine any_nil (by kernel_rfl) rfl ?_)
  refine run_loopF rfl ?_
  repeat' (first | refine goM rfl ?_ | refine goR rfl ?_ | refine goX rfl ?_ | refine goY rfl ?_ | refine goA rfl ?_ | refine any_run ?_ | refine any_nil (by kernel_rfl) rfl ?_)
  (first | refine run_ret rfl ?_ | refine run_done rfl ?_)
  rfl
theorem heldCorrectionS_z (k : Nat) (hk : k ≤ 8589934592) : CallsOK PP F_laws_heldCorrectionS [.v (.sl 5 []), .v (.int .i64 k)] [.v (.int .i64 k)] := by
  refine S_laws_heldCorrectionS rfl (Nat.le_of_ble_eq_true rfl) ?_
  repeat' (first | refine goM rfl ?_ | refine goR rfl ?_ | refine goX rfl ?_ | refine goY rfl ?_ | refine goA rfl ?_ | refine any_run ?_ | refine any_nil (by kernel_rfl) rfl ?_)
  refine run_loopF rfl ?_
  repeat' (first | refine goM rfl ?_ | refine goR rfl ?_ | refine goX rfl ?_ | refine goY rfl ?_ | refine goA rfl ?_ | refine any_run ?_ | refine any_nil (by kernel_rfl) rfl ?_)
  (first | refine run_ret rfl ?_ | refine run_done rfl ?_)
  rfl
theorem heldEntryS_z (k : Nat) (hk : k ≤ 8589934592) : CallsOK PP F_laws_heldEntryS [.v (.sl 4 []), .v (.int .i64 k)] [.v (.int .i64 k)] := by
  refine S_laws_heldEntryS rfl (Nat.le_of_ble_eq_true rfl) ?_
  repeat' (first | refine goM rfl ?_ | refine goR rfl ?_ | refine goX rfl ?_ | refine goY rfl ?_ | refine goA rfl ?_ | refine any_run ?_ | refine any_nil (by kernel_rfl) rfl ?_)
  refine run_loopF rfl ?_
  repeat' (first | refine goM rfl ?_ | refine goR rfl ?_ | refine goX rfl ?_ | refine goY rfl ?_ | refine goA rfl ?_ | refine any_run ?_ | refine any_nil (by kernel_rfl) rfl ?_)
  (first | refine run_ret rfl ?_ | refine run_done rfl ?_)
  rfl
end Go.Rd

namespace Go.Rd
open Go.Proofs
set_option linter.unusedSimpArgs false
set_option linter.unusedVariables false
set_option maxRecDepth 10000
set_option maxHeartbeats 1000000

theorem markDraft_z (k : Nat) (hk : k ≤ 8589934592) : CallsOK PP F_laws_markDraft [.agg zDra, .v (.int .i64 k)] [.v (.int .i64 k)] := by
  refine S_laws_markDraft rfl (Nat.le_of_ble_eq_true rfl) ?_
  repeat' (first | refine goM rfl ?_ | refine goR rfl ?_ | refine goX rfl ?_ | refine goY rfl ?_ | refine goA rfl ?_ | refine any_run ?_ | refine any_nil (by kernel_rfl) rfl ?_ | refine goC (markClueS_z k hk) rfl rfl rfl rfl ?_)
  (first | refine run_ret rfl ?_ | refine run_done rfl ?_)
  rfl
theorem heldDraft_z (k : Nat) (hk : k ≤ 8589934592) : CallsOK PP F_laws_heldDraft [.agg zDra, .v (.int .i64 k)] [.v (.int .i64 k)] := by
  refine S_laws_heldDraft rfl (Nat.le_of_ble_eq_true rfl) ?_
  repeat' (first | refine run_sz rfl (fun h => absurd h (by omega)) (fun _ => ?_) | refine goM rfl ?_ | refine goR rfl ?_ | refine goX rfl ?_ | refine goY rfl ?_ | refine goA rfl ?_ | refine any_run ?_ | refine any_nil (by kernel_rfl) rfl ?_ | refine goC (heldClueS_z k hk) rfl rfl rfl rfl ?_)
  (first | refine run_ret rfl ?_ | refine run_done rfl ?_)
  rfl
theorem markHouse_z (k : Nat) (hk : k ≤ 8589934592) : CallsOK PP F_laws_markHouse [.agg (zHou (.sl 4 []) (.sl 2 [])), .v (.int .i64 k)] [.v (.int .i64 k)] := by
  refine S_laws_markHouse rfl (Nat.le_of_ble_eq_true rfl) ?_
  repeat' (first | refine goM rfl ?_ | refine goR rfl ?_ | refine goX rfl ?_ | refine goY rfl ?_ | refine goA rfl ?_ | refine any_run ?_ | refine any_nil (by kernel_rfl) rfl ?_ | refine goC (markListedS_z k hk) rfl rfl rfl rfl ?_ | refine goC (markMeaningS_z k hk) rfl rfl rfl rfl ?_ | refine goC (markDraft_z k hk) rfl rfl rfl rfl ?_ | refine goC (markIssueS_z k hk) rfl rfl rfl rfl ?_ | refine goC (markUsedS_z k hk) rfl rfl rfl rfl ?_ | refine goC (markCorrectionS_z k hk) rfl rfl rfl rfl ?_ | refine goC (markEntryS_z k hk) rfl rfl rfl rfl ?_)
  (first | refine run_ret rfl ?_ | refine run_done rfl ?_)
  rfl
theorem heldHouse_z (k : Nat) (hk : k ≤ 8589934592) : CallsOK PP F_laws_heldHouse [.agg (zHou (.sl 4 []) (.sl 2 [])), .v (.int .i64 k)] [.v (.int .i64 k)] := by
  refine S_laws_heldHouse rfl (Nat.le_of_ble_eq_true rfl) ?_
  repeat' (first | refine run_sz rfl (fun h => absurd h (by omega)) (fun _ => ?_) | refine goM rfl ?_ | refine goR rfl ?_ | refine goX rfl ?_ | refine goY rfl ?_ | refine goA rfl ?_ | refine any_run ?_ | refine any_nil (by kernel_rfl) rfl ?_ | refine goC (heldListedS_z k hk) rfl rfl rfl rfl ?_ | refine goC (heldMeaningS_z k hk) rfl rfl rfl rfl ?_ | refine goC (heldDraft_z k hk) rfl rfl rfl rfl ?_ | refine goC (heldIssueS_z k hk) rfl rfl rfl rfl ?_ | refine goC (heldUsedS_z k hk) rfl rfl rfl rfl ?_ | refine goC (heldCorrectionS_z k hk) rfl rfl rfl rfl ?_ | refine goC (heldEntryS_z k hk) rfl rfl rfl rfl ?_)
  (first | refine run_ret rfl ?_ | refine run_done rfl ?_)
  rfl
theorem markHouse_ld (xs : List Lis) (ys : List Mea) (k : Nat) (hx : xs.length ≤ 1048576) (hy : ys.length ≤ 1048576) (hk : k ≤ 1048576) :
    CallsH PP F_laws_markHouse [⟨T_impl_Listed, 4, 40, xs.map rLis⟩, ⟨T_impl_Meaning, 2, 24, ys.map rMea⟩] [⟨T_impl_Listed, 4, 40, ((List.range xs.length).map (mkLis k)).map rLis⟩, ⟨T_impl_Meaning, 2, 24, ((List.range ys.length).map (mkMea (k + 4 * xs.length))).map rMea⟩]
      (fun u => [.agg (zHou (.val (u 0)) (.val (u 1))), .v (.int .i64 k)]) (fun _ => [.v (.int .i64 ((k + 4 * xs.length + 2 * ys.length : Nat) : Int))]) := by
  refine SH_laws_markHouse [1000, 1001] [1000, 1001] (fun _ => rfl) (fun _ => ⟨Nat.le_of_ble_eq_true rfl, by simp⟩) (by simp) (by simp) (fun u => ?_)
  obtain ⟨uv, ub⟩ := u
  have hk2 : k + 4 * xs.length + 2 * ys.length ≤ 8589934592 := by omega
  repeat' (first | refine goM rfl ?_ | refine goR rfl ?_ | refine goX rfl ?_ | refine goY rfl ?_ | refine goA rfl ?_ | refine any_run ?_ | refine any_nil (by kernel_rfl) rfl ?_)
  refine mid_callH1 (m := 1000) (args := fun v => [.v (.val v), .v (.int .i64 k)]) (markListedS_ok xs k hx (by omega)) rfl rfl rfl rfl rfl rfl (by decide) (fun bs1 => ?_)
  repeat' (first | refine goM rfl ?_ | refine goR rfl ?_ | refine goX rfl ?_ | refine goY rfl ?_ | refine goA rfl ?_ | refine any_run ?_ | refine any_nil (by kernel_rfl) rfl ?_)
  refine mid_callH1 (m := 1001) (args := fun v => [.v (.val v), .v (.int .i64 ((k + 4 * xs.length : Nat) : Int))]) (markMeaningS_ok ys (k + 4 * xs.length) hy (by omega)) rfl rfl rfl rfl rfl rfl (by decide) (fun bs2 => ?_)
  repeat' (first | refine goM rfl ?_ | refine goR rfl ?_ | refine goX rfl ?_ | refine goY rfl ?_ | refine goA rfl ?_ | refine any_run ?_ | refine any_nil (by kernel_rfl) rfl ?_ | refine goC (markDraft_z _ hk2) rfl rfl rfl rfl ?_ | refine goC (markIssueS_z _ hk2) rfl rfl rfl rfl ?_ | refine goC (markUsedS_z _ hk2) rfl rfl rfl rfl ?_ | refine goC (markCorrectionS_z _ hk2) rfl rfl rfl rfl ?_ | refine goC (markEntryS_z _ hk2) rfl rfl rfl rfl ?_)
  refine RunQ.ret ?_
  exact ⟨(uv, fun i => if i = 0 then bs1 else bs2), rfl, fun _ _ => rfl, rfl, rfl, trivial⟩
theorem heldHouse_ld (a b k : Nat) (hx : a ≤ 1048576) (hy : b ≤ 1048576) (hk : k ≤ 1048576) :
    CallsOK PP F_laws_heldHouse [.agg (zHou (.sl 4 (((List.range a).map (mkLis k)).map rLis)) (.sl 2 (((List.range b).map (mkMea (k + 4 * a))).map rMea))), .v (.int .i64 k)] [.v (.int .i64 ((k + 4 * a + 2 * b : Nat) : Int))] := by
  have hk2 : k + 4 * a + 2 * b ≤ 8589934592 := by omega
  refine S_laws_heldHouse rfl (Nat.le_of_ble_eq_true rfl) ?_
  repeat' (first | refine run_sz rfl (fun h => absurd h (by omega)) (fun _ => ?_) | refine goM rfl ?_ | refine goR rfl ?_ | refine goX rfl ?_ | refine goY rfl ?_ | refine goA rfl ?_ | refine any_run ?_ | refine any_nil (by kernel_rfl) rfl ?_ | refine goC (heldListedS_ok a k hx (by omega)) rfl rfl rfl rfl ?_ | refine goC (heldMeaningS_ok b (k + 4 * a) hy (by omega)) rfl rfl rfl rfl ?_ | refine goC (heldDraft_z _ hk2) rfl rfl rfl rfl ?_ | refine goC (heldIssueS_z _ hk2) rfl rfl rfl rfl ?_ | refine goC (heldUsedS_z _ hk2) rfl rfl rfl rfl ?_ | refine goC (heldCorrectionS_z _ hk2) rfl rfl rfl rfl ?_ | refine goC (heldEntryS_z _ hk2) rfl rfl rfl rfl ?_)
  (first | refine run_ret rfl ?_ | refine run_done rfl ?_)
  rfl
end Go.Rd

namespace Go.Rd
open Go.Proofs
set_option linter.unusedSimpArgs false
set_option linter.unusedVariables false
set_option maxRecDepth 10000
def wdec (n : Nat) (l : Int) : Int := IntKind.i64.wrap (l - n)
def seqz : List (Int → Int) → Int → Int
  | [], l => l
  | f :: fs, l => if f l < 0 then -1 else seqz fs (f l)
def szLoop {α : Type} (f : α → Int → Int) : List α → Int → Int
  | [], l => l
  | x :: xs, l => if f x l < 0 then -1 else szLoop f xs (f x l)
def szList {α : Type} (f : α → Int → Int) (xs : List α) (l : Int) : Int := if wdec xs.length l < 0 then -1 else szLoop f xs (wdec xs.length l)

/- Listed -/
def smListed (x : Lis) : Prop := True
def sz_Listed (x : Lis) : Int → Int := seqz [wdec x.word.length]
theorem szListed_ok (x : Lis) (l : Int) (h : smListed x) : CallsOK PP F_laws_szListed [.agg (rLis x), .v (.int .i64 l)] [.v (.int .i64 (sz_Listed x l))] := by
  refine S_laws_szListed rfl (Nat.le_of_ble_eq_true rfl) ?_
  repeat' (first | refine goM rfl ?_ | refine goR rfl ?_ | refine goX rfl ?_ | refine goY rfl ?_ | refine goA rfl ?_ | refine any_run ?_ | refine any_nil (by kernel_rfl) rfl ?_)
  refine run_sz rfl (fun h0 => ?_) (fun h0 => ?_)
  · repeat' (first | refine goM rfl ?_ | refine goR rfl ?_ | refine goX rfl ?_ | refine goY rfl ?_ | refine goA rfl ?_ | refine any_run ?_ | refine any_nil (by kernel_rfl) rfl ?_)
    (first | refine run_ret rfl ?_ | refine run_done rfl ?_)
    replace h0 : (wdec x.word.length) l < 0 := h0
    simp only [sz_Listed, seqz, h0, if_true, if_false]
  · repeat' (first | refine goM rfl ?_ | refine goR rfl ?_ | refine goX rfl ?_ | refine goY rfl ?_ | refine goA rfl ?_ | refine any_run ?_ | refine any_nil (by kernel_rfl) rfl ?_)
    (first | refine run_ret rfl ?_ | refine run_done rfl ?_)
    replace h0 : ¬ (wdec x.word.length) l < 0 := h0
    simp only [sz_Listed, seqz, h0, if_false]
    try rfl
theorem toListed_ok (x : Lis) (h : smListed x) : CallsOK PP F_laws_toListed [.agg (rLis x)] [.agg (rLis x)] := by
  refine S_laws_toListed rfl (Nat.le_of_ble_eq_true rfl) ?_
  repeat' (first | refine goM rfl ?_ | refine goR rfl ?_ | refine goX rfl ?_ | refine goY rfl ?_ | refine goA rfl ?_ | refine any_run ?_ | refine any_nil (by kernel_rfl) rfl ?_)
  (first | refine run_ret rfl ?_ | refine run_done rfl ?_)
  rfl
theorem eqListed_ok (x : Lis) (h : smListed x) : CallsOK PP F_laws_eqListed [.agg (rLis x), .agg (rLis x)] [.v (.bool true)] := by
  refine S_laws_eqListed rfl (Nat.le_of_ble_eq_true rfl) ?_
  repeat' (first | refine run_neI rfl ?_ | refine run_neS rfl ?_ | refine goM rfl ?_ | refine goR rfl ?_ | refine goX rfl ?_ | refine goY rfl ?_ | refine goA rfl ?_ | refine any_run ?_ | refine any_nil (by kernel_rfl) rfl ?_)
  (first | refine run_ret rfl ?_ | refine run_done rfl ?_)
  rfl

/- ListedS -/
def smListedS (xs : List Lis) : Prop := xs.length ≤ 1048576 ∧ ∀ x ∈ xs, smListed x
theorem szListedS_ok (xs : List Lis) (l : Int) (h : smListedS xs) : CallsOK PP F_laws_szListedS [.v (.sl 4 (xs.map rLis)), .v (.int .i64 l)] [.v (.int .i64 (szList sz_Listed xs l))] := by
  obtain ⟨hlen, hall⟩ := h
  refine S_laws_szListedS rfl (Nat.le_of_ble_eq_true rfl) ?_
  repeat' (first | refine goM rfl ?_ | refine goR rfl ?_ | refine goX rfl ?_ | refine goY rfl ?_ | refine goA rfl ?_ | refine any_run ?_ | refine any_nil (by kernel_rfl) rfl ?_)
  refine run_sz rfl (fun h0 => ?_) (fun h0 => ?_)
  · repeat' (first | refine goM rfl ?_ | refine goR rfl ?_ | refine goX rfl ?_ | refine goY rfl ?_ | refine goA rfl ?_ | refine any_run ?_ | refine any_nil (by kernel_rfl) rfl ?_)
    (first | refine run_ret rfl ?_ | refine run_done rfl ?_)
    rw [List.length_map] at h0
    replace h0 : wdec xs.length l < 0 := h0
    simp only [szList, h0, if_true]
  · have key : ∀ k : Nat, ∀ l : Int, L_laws_szListedS_0 PP [(0, .v (.sl 4 (xs.map rLis))), (1, .v (.int .i64 l)), (5, .v (.int .i64 k))] [.v (.int .i64 (szLoop sz_Listed (xs.drop k) l))] := up xs.length (fun k ih l => ?_)
    · repeat' (first | refine goM rfl ?_ | refine goR rfl ?_ | refine goX rfl ?_ | refine goY rfl ?_ | refine goA rfl ?_ | refine any_run ?_ | refine any_nil (by kernel_rfl) rfl ?_)
      refine run_loopF rfl ?_
      rw [List.length_map] at h0
      replace h0 : ¬ wdec xs.length l < 0 := h0
      rw [List.length_map]
      simp only [szList, h0, if_false]
      exact key 0 _
    · repeat' (first | refine goM rfl ?_ | refine goR rfl ?_ | refine goX rfl ?_ | refine goY rfl ?_ | refine goA rfl ?_ | refine any_run ?_ | refine any_nil (by kernel_rfl) rfl ?_)
      refine run_cnd_lt (n := (xs.map rLis).length) rfl (fun hk => ?_) (fun hk => ?_)
      · rw [List.length_map] at hk
        repeat' (first | refine mid_idxm rfl rfl hk rfl ?_ | refine goM rfl ?_ | refine goR rfl ?_ | refine goX rfl ?_ | refine goY rfl ?_ | refine goA rfl ?_ | refine any_run ?_ | refine any_nil (by kernel_rfl) rfl ?_ | refine goC (szListed_ok xs[k] _ (hall _ (List.getElem_mem hk))) rfl rfl rfl rfl ?_)
        rw [List.drop_eq_getElem_cons hk]
        refine run_sz rfl (fun h1 => ?_) (fun h1 => ?_)
        · repeat' (first | refine goM rfl ?_ | refine goR rfl ?_ | refine goX rfl ?_ | refine goY rfl ?_ | refine goA rfl ?_ | refine any_run ?_ | refine any_nil (by kernel_rfl) rfl ?_)
          (first | refine run_ret rfl ?_ | refine run_done rfl ?_)
          simp [szLoop, h1]
        · repeat' (first | refine goM rfl ?_ | refine goR rfl ?_ | refine goX rfl ?_ | refine goY rfl ?_ | refine goA rfl ?_ | refine any_run ?_ | refine any_nil (by kernel_rfl) rfl ?_)
          refine run_backF rfl ?_
          rw [wsucc (by omega)]
          simp only [szLoop, h1, if_false]
          exact ih hk _
      · rw [List.length_map] at hk
        repeat' (first | refine goM rfl ?_ | refine goR rfl ?_ | refine goX rfl ?_ | refine goY rfl ?_ | refine goA rfl ?_ | refine any_run ?_ | refine any_nil (by kernel_rfl) rfl ?_)
        (first | refine run_ret rfl ?_ | refine run_done rfl ?_)
        rw [List.drop_eq_nil_of_le (by omega)]; rfl
theorem toListedS_ok (xs : List Lis) (h : smListedS xs) : CallsOK PP F_laws_toListedS [.v (.sl 4 (xs.map rLis))] [.own T_impl_Listed 4 40 (xs.map rLis)] := by
  obtain ⟨hlen, hall⟩ := h
  refine S_laws_toListedS rfl (Nat.le_of_ble_eq_true rfl) ?_
  have key : ∀ k : Nat, k ≤ xs.length → L_laws_toListedS_0 PP [(0, .v (.sl 4 (xs.map rLis))), (3, .own T_impl_Listed 4 40 (fillRows rLis [.str [], .int .i64 0, .int .i64 0, .int .i64 0] xs k)), (4, .v (.int .i64 k))] [.own T_impl_Listed 4 40 (xs.map rLis)] := up xs.length (fun k ih hle => ?_)
  · repeat' (first | refine mid_mks rfl (by rw [List.length_map]; omega) (by rw [List.length_map]; omega) rfl ?_ | refine goM rfl ?_ | refine goR rfl ?_ | refine goX rfl ?_ | refine goY rfl ?_ | refine goA rfl ?_ | refine any_run ?_ | refine any_nil (by kernel_rfl) rfl ?_)
    refine run_loopF rfl ?_
    rw [List.length_map, ← fillRows_zero rLis _ xs]
    exact key 0 (Nat.zero_le _)
  · repeat' (first | refine goM rfl ?_ | refine goR rfl ?_ | refine goX rfl ?_ | refine goY rfl ?_ | refine goA rfl ?_ | refine any_run ?_ | refine any_nil (by kernel_rfl) rfl ?_)
    refine run_cnd_lt (n := (xs.map rLis).length) rfl (fun hk => ?_) (fun hk => ?_)
    · rw [List.length_map] at hk
      repeat' (first | refine mid_idxm rfl rfl hk rfl ?_ | refine mid_idxo rfl rfl rfl (by omega) (by rw [fillRows_len _ _ _ hle]; omega) rfl ?_ | refine mid_sto_row rfl rfl rfl rfl rfl (fillRows_len1 _ _ _ hk) ?_ | refine goM rfl ?_ | refine goR rfl ?_ | refine goX rfl ?_ | refine goY rfl ?_ | refine goA rfl ?_ | refine any_run ?_ | refine any_nil (by kernel_rfl) rfl ?_ | refine goC (toListed_ok xs[k] (hall _ (List.getElem_mem hk))) rfl rfl rfl rfl ?_)
      refine run_backF rfl ?_
      rw [wsucc (by omega), Int.toNat_natCast]
      have hs := fillRows_set rLis [.str [], .int .i64 0, .int .i64 0, .int .i64 0] xs hk
      simp only [rLis] at hs ⊢
      rw [hs]
      exact ih hk (by omega)
    · rw [List.length_map] at hk
      repeat' (first | refine goM rfl ?_ | refine goR rfl ?_ | refine goX rfl ?_ | refine goY rfl ?_ | refine goA rfl ?_ | refine any_run ?_ | refine any_nil (by kernel_rfl) rfl ?_)
      (first | refine run_ret rfl ?_ | refine run_done rfl ?_)
      rw [fillRows_all _ _ _ (by omega)]
theorem eqListedS_ok (xs : List Lis) (h : smListedS xs) : CallsOK PP F_laws_eqListedS [.v (.sl 4 (xs.map rLis)), .v (.sl 4 (xs.map rLis))] [.v (.bool true)] := by
  obtain ⟨hlen, hall⟩ := h
  refine S_laws_eqListedS rfl (Nat.le_of_ble_eq_true rfl) ?_
  have key : ∀ k : Nat, L_laws_eqListedS_0 PP [(0, .v (.sl 4 (xs.map rLis))), (1, .v (.sl 4 (xs.map rLis))), (5, .v (.int .i64 k))] [.v (.bool true)] := up xs.length (fun k ih => ?_)
  · repeat' (first | refine run_neI rfl ?_ | refine goM rfl ?_ | refine goR rfl ?_ | refine goX rfl ?_ | refine goY rfl ?_ | refine goA rfl ?_ | refine any_run ?_ | refine any_nil (by kernel_rfl) rfl ?_)
    refine run_loopF rfl ?_
    exact key 0
  · repeat' (first | refine goM rfl ?_ | refine goR rfl ?_ | refine goX rfl ?_ | refine goY rfl ?_ | refine goA rfl ?_ | refine any_run ?_ | refine any_nil (by kernel_rfl) rfl ?_)
    refine run_cnd_lt (n := (xs.map rLis).length) rfl (fun hk => ?_) (fun hk => ?_)
    · rw [List.length_map] at hk
      repeat' (first | refine run_neI rfl ?_ | refine run_neS rfl ?_ | refine mid_idxm rfl rfl hk rfl ?_ | refine goM rfl ?_ | refine goR rfl ?_ | refine goX rfl ?_ | refine goY rfl ?_ | refine goA rfl ?_ | refine any_run ?_ | refine any_nil (by kernel_rfl) rfl ?_ | refine goC (eqListed_ok xs[k] (hall _ (List.getElem_mem hk))) rfl rfl rfl rfl ?_)
      refine run_backF rfl ?_
      rw [wsucc (by omega)]
      exact ih hk
    · repeat' (first | refine goM rfl ?_ | refine goR rfl ?_ | refine goX rfl ?_ | refine goY rfl ?_ | refine goA rfl ?_ | refine any_run ?_ | refine any_nil (by kernel_rfl) rfl ?_)
      (first | refine run_ret rfl ?_ | refine run_done rfl ?_)
      rfl

/- Meaning -/
def smMeaning (x : Mea) : Prop := True
def sz_Meaning (x : Mea) : Int → Int := seqz [wdec x.word.length]
theorem szMeaning_ok (x : Mea) (l : Int) (h : smMeaning x) : CallsOK PP F_laws_szMeaning [.agg (rMea x), .v (.int .i64 l)] [.v (.int .i64 (sz_Meaning x l))] := by
  refine S_laws_szMeaning rfl (Nat.le_of_ble_eq_true rfl) ?_
  repeat' (first | refine goM rfl ?_ | refine goR rfl ?_ | refine goX rfl ?_ | refine goY rfl ?_ | refine goA rfl ?_ | refine any_run ?_ | refine any_nil (by kernel_rfl) rfl ?_)
  refine run_sz rfl (fun h0 => ?_) (fun h0 => ?_)
  · repeat' (first | refine goM rfl ?_ | refine goR rfl ?_ | refine goX rfl ?_ | refine goY rfl ?_ | refine goA rfl ?_ | refine any_run ?_ | refine any_nil (by kernel_rfl) rfl ?_)
    (first | refine run_ret rfl ?_ | refine run_done rfl ?_)
    replace h0 : (wdec x.word.length) l < 0 := h0
    simp only [sz_Meaning, seqz, h0, if_true, if_false]
  · repeat' (first | refine goM rfl ?_ | refine goR rfl ?_ | refine goX rfl ?_ | refine goY rfl ?_ | refine goA rfl ?_ | refine any_run ?_ | refine any_nil (by kernel_rfl) rfl ?_)
    (first | refine run_ret rfl ?_ | refine run_done rfl ?_)
    replace h0 : ¬ (wdec x.word.length) l < 0 := h0
    simp only [sz_Meaning, seqz, h0, if_false]
    try rfl
theorem toMeaning_ok (x : Mea) (h : smMeaning x) : CallsOK PP F_laws_toMeaning [.agg (rMea x)] [.agg (rMea x)] := by
  refine S_laws_toMeaning rfl (Nat.le_of_ble_eq_true rfl) ?_
  repeat' (first | refine goM rfl ?_ | refine goR rfl ?_ | refine goX rfl ?_ | refine goY rfl ?_ | refine goA rfl ?_ | refine any_run ?_ | refine any_nil (by kernel_rfl) rfl ?_)
  (first | refine run_ret rfl ?_ | refine run_done rfl ?_)
  rfl
theorem eqMeaning_ok (x : Mea) (h : smMeaning x) : CallsOK PP F_laws_eqMeaning [.agg (rMea x), .agg (rMea x)] [.v (.bool true)] := by
  refine S_laws_eqMeaning rfl (Nat.le_of_ble_eq_true rfl) ?_
  repeat' (first | refine run_neI rfl ?_ | refine run_neS rfl ?_ | refine goM rfl ?_ | refine goR rfl ?_ | refine goX rfl ?_ | refine goY rfl ?_ | refine goA rfl ?_ | refine any_run ?_ | refine any_nil (by kernel_rfl) rfl ?_)
  (first | refine run_ret rfl ?_ | refine run_done rfl ?_)
  rfl

/- MeaningS -/
def smMeaningS (xs : List Mea) : Prop := xs.length ≤ 1048576 ∧ ∀ x ∈ xs, smMeaning x
theorem szMeaningS_ok (xs : List Mea) (l : Int) (h : smMeaningS xs) : CallsOK PP F_laws_szMeaningS [.v (.sl 2 (xs.map rMea)), .v (.int .i64 l)] [.v (.int .i64 (szList sz_Meaning xs l))] := by
  obtain ⟨hlen, hall⟩ := h
  refine S_laws_szMeaningS rfl (Nat.le_of_ble_eq_true rfl) ?_
  repeat' (first | refine goM rfl ?_ | refine goR rfl ?_ | refine goX rfl ?_ | refine goY rfl ?_ | refine goA rfl ?_ | refine any_run ?_ | refine any_nil (by kernel_rfl) rfl ?_)
  refine run_sz rfl (fun h0 => ?_) (fun h0 => ?_)
  · repeat' (first | refine goM rfl ?_ | refine goR rfl ?_ | refine goX rfl ?_ | refine goY rfl ?_ | refine goA rfl ?_ | refine any_run ?_ | refine any_nil (by kernel_rfl) rfl ?_)
    (first | refine run_ret rfl ?_ | refine run_done rfl ?_)
    rw [List.length_map] at h0
    replace h0 : wdec xs.length l < 0 := h0
    simp only [szList, h0, if_true]
  · have key : ∀ k : Nat, ∀ l : Int, L_laws_szMeaningS_0 PP [(0, .v (.sl 2 (xs.map rMea))), (1, .v (.int .i64 l)), (5, .v (.int .i64 k))] [.v (.int .i64 (szLoop sz_Meaning (xs.drop k) l))] := up xs.length (fun k ih l => ?_)
    · repeat' (first | refine goM rfl ?_ | refine goR rfl ?_ | refine goX rfl ?_ | refine goY rfl ?_ | refine goA rfl ?_ | refine any_run ?_ | refine any_nil (by kernel_rfl) rfl ?_)
      refine run_loopF rfl ?_
      rw [List.length_map] at h0
      replace h0 : ¬ wdec xs.length l < 0 := h0
      rw [List.length_map]
      simp only [szList, h0, if_false]
      exact key 0 _
    · repeat' (first | refine goM rfl ?_ | refine goR rfl ?_ | refine goX rfl ?_ | refine goY rfl ?_ | refine goA rfl ?_ | refine any_run ?_ | refine any_nil (by kernel_rfl) rfl ?_)
      refine run_cnd_lt (n := (xs.map rMea).length) rfl (fun hk => ?_) (fun hk => ?_)
      · rw [List.length_map] at hk
        repeat' (first | refine mid_idxm rfl rfl hk rfl ?_ | refine goM rfl ?_ | refine goR rfl ?_ | refine goX rfl ?_ | refine goY rfl ?_ | refine goA rfl ?_ | refine any_run ?_ | refine any_nil (by kernel_rfl) rfl ?_ | refine goC (szMeaning_ok xs[k] _ (hall _ (List.getElem_mem hk))) rfl rfl rfl rfl ?_)
        rw [List.drop_eq_getElem_cons hk]
        refine run_sz rfl (fun h1 => ?_) (fun h1 => ?_)
        · repeat' (first | refine goM rfl ?_ | refine goR rfl ?_ | refine goX rfl ?_ | refine goY rfl ?_ | refine goA rfl ?_ | refine any_run ?_ | refine any_nil (by kernel_rfl) rfl ?_)
          (first | refine run_ret rfl ?_ | refine run_done rfl ?_)
          simp [szLoop, h1]
        · repeat' (first | refine goM rfl ?_ | refine goR rfl ?_ | refine goX rfl ?_ | refine goY rfl ?_ | refine goA rfl ?_ | refine any_run ?_ | refine any_nil (by kernel_rfl) rfl ?_)
          refine run_backF rfl ?_
          rw [wsucc (by omega)]
          simp only [szLoop, h1, if_false]
          exact ih hk _
      · rw [List.length_map] at hk
        repeat' (first | refine goM rfl ?_ | refine goR rfl ?_ | refine goX rfl ?_ | refine goY rfl ?_ | refine goA rfl ?_ | refine any_run ?_ | refine any_nil (by kernel_rfl) rfl ?_)
        (first | refine run_ret rfl ?_ | refine run_done rfl ?_)
        rw [List.drop_eq_nil_of_le (by omega)]; rfl
theorem toMeaningS_ok (xs : List Mea) (h : smMeaningS xs) : CallsOK PP F_laws_toMeaningS [.v (.sl 2 (xs.map rMea))] [.own T_impl_Meaning 2 24 (xs.map rMea)] := by
  obtain ⟨hlen, hall⟩ := h
  refine S_laws_toMeaningS rfl (Nat.le_of_ble_eq_true rfl) ?_
  have key : ∀ k : Nat, k ≤ xs.length → L_laws_toMeaningS_0 PP [(0, .v (.sl 2 (xs.map rMea))), (3, .own T_impl_Meaning 2 24 (fillRows rMea [.str [], .int .i64 0] xs k)), (4, .v (.int .i64 k))] [.own T_impl_Meaning 2 24 (xs.map rMea)] := up xs.length (fun k ih hle => ?_)
  · repeat' (first | refine mid_mks rfl (by rw [List.length_map]; omega) (by rw [List.length_map]; omega) rfl ?_ | refine goM rfl ?_ | refine goR rfl ?_ | refine goX rfl ?_ | refine goY rfl ?_ | refine goA rfl ?_ | refine any_run ?_ | refine any_nil (by kernel_rfl) rfl ?_)
    refine run_loopF rfl ?_
    rw [List.length_map, ← fillRows_zero rMea _ xs]
    exact key 0 (Nat.zero_le _)
  · repeat' (first | refine goM rfl ?_ | refine goR rfl ?_ | refine goX rfl ?_ | refine goY rfl ?_ | refine goA rfl ?_ | refine any_run ?_ | refine any_nil (by kernel_rfl) rfl ?_)
    refine run_cnd_lt (n := (xs.map rMea).length) rfl (fun hk => ?_) (fun hk => ?_)
    · rw [List.length_map] at hk
      repeat' (first | refine mid_idxm rfl rfl hk rfl ?_ | refine mid_idxo rfl rfl rfl (by omega) (by rw [fillRows_len _ _ _ hle]; omega) rfl ?_ | refine mid_sto_row rfl rfl rfl rfl rfl (fillRows_len1 _ _ _ hk) ?_ | refine goM rfl ?_ | refine goR rfl ?_ | refine goX rfl ?_ | refine goY rfl ?_ | refine goA rfl ?_ | refine any_run ?_ | refine any_nil (by kernel_rfl) rfl ?_ | refine goC (toMeaning_ok xs[k] (hall _ (List.getElem_mem hk))) rfl rfl rfl rfl ?_)
      refine run_backF rfl ?_
      rw [wsucc (by omega), Int.toNat_natCast]
      have hs := fillRows_set rMea [.str [], .int .i64 0] xs hk
      simp only [rMea] at hs ⊢
      rw [hs]
      exact ih hk (by omega)
    · rw [List.length_map] at hk
      repeat' (first | refine goM rfl ?_ | refine goR rfl ?_ | refine goX rfl ?_ | refine goY rfl ?_ | refine goA rfl ?_ | refine any_run ?_ | refine any_nil (by kernel_rfl) rfl ?_)
      (first | refine run_ret rfl ?_ | refine run_done rfl ?_)
      rw [fillRows_all _ _ _ (by omega)]
theorem eqMeaningS_ok (xs : List Mea) (h : smMeaningS xs) : CallsOK PP F_laws_eqMeaningS [.v (.sl 2 (xs.map rMea)), .v (.sl 2 (xs.map rMea))] [.v (.bool true)] := by
  obtain ⟨hlen, hall⟩ := h
  refine S_laws_eqMeaningS rfl (Nat.le_of_ble_eq_true rfl) ?_
  have key : ∀ k : Nat, L_laws_eqMeaningS_0 PP [(0, .v (.sl 2 (xs.map rMea))), (1, .v (.sl 2 (xs.map rMea))), (5, .v (.int .i64 k))] [.v (.bool true)] := up xs.length (fun k ih => ?_)
  · repeat' (first | refine run_neI rfl ?_ | refine goM rfl ?_ | refine goR rfl ?_ | refine goX rfl ?_ | refine goY rfl ?_ | refine goA rfl ?_ | refine any_run ?_ | refine any_nil (by kernel_rfl) rfl ?_)
    refine run_loopF rfl ?_
    exact key 0
  · repeat' (first | refine goM rfl ?_ | refine goR rfl ?_ | refine goX rfl ?_ | refine goY rfl ?_ | refine goA rfl ?_ | refine any_run ?_ | refine any_nil (by kernel_rfl) rfl ?_)
    refine run_cnd_lt (n := (xs.map rMea).length) rfl (fun hk => ?_) (fun hk => ?_)
    · rw [List.length_map] at hk
      repeat' (first | refine run_neI rfl ?_ | refine run_neS rfl ?_ | refine mid_idxm rfl rfl hk rfl ?_ | refine goM rfl ?_ | refine goR rfl ?_ | refine goX rfl ?_ | refine goY rfl ?_ | refine goA rfl ?_ | refine any_run ?_ | refine any_nil (by kernel_rfl) rfl ?_ | refine goC (eqMeaning_ok xs[k] (hall _ (List.getElem_mem hk))) rfl rfl rfl rfl ?_)
      refine run_backF rfl ?_
      rw [wsucc (by omega)]
      exact ih hk
    · repeat' (first | refine goM rfl ?_ | refine goR rfl ?_ | refine goX rfl ?_ | refine goY rfl ?_ | refine goA rfl ?_ | refine any_run ?_ | refine any_nil (by kernel_rfl) rfl ?_)
      (first | refine run_ret rfl ?_ | refine run_done rfl ?_)
      rfl

/- Grid -/
def smGrid (x : Grd) : Prop := True
theorem eqGrid_ok (x : Grd) (h : smGrid x) : CallsOK PP F_laws_eqGrid [.agg (rGrd x), .agg (rGrd x)] [.v (.bool true)] := by
  refine S_laws_eqGrid rfl (Nat.le_of_ble_eq_true rfl) ?_
  repeat' (first | refine run_neI rfl ?_ | refine run_neS rfl ?_ | refine goM rfl ?_ | refine goR rfl ?_ | refine goX rfl ?_ | refine goY rfl ?_ | refine goA rfl ?_ | refine any_run ?_ | refine any_nil (by kernel_rfl) rfl ?_)
  (first | refine run_ret rfl ?_ | refine run_done rfl ?_)
  rfl

/- Step -/
def smStep (x : Stp) : Prop := True
theorem eqStep_ok (x : Stp) (h : smStep x) : CallsOK PP F_laws_eqStep [.agg (rStp x), .agg (rStp x)] [.v (.bool true)] := by
  refine S_laws_eqStep rfl (Nat.le_of_ble_eq_true rfl) ?_
  repeat' (first | refine run_neI rfl ?_ | refine run_neS rfl ?_ | refine goM rfl ?_ | refine goR rfl ?_ | refine goX rfl ?_ | refine goY rfl ?_ | refine goA rfl ?_ | refine any_run ?_ | refine any_nil (by kernel_rfl) rfl ?_)
  (first | refine run_ret rfl ?_ | refine run_done rfl ?_)
  rfl

/- StepS -/
def smStepS (xs : List Stp) : Prop := xs.length ≤ 1048576 ∧ ∀ x ∈ xs, smStep x
theorem eqStepS_ok (xs : List Stp) (h : smStepS xs) : CallsOK PP F_laws_eqStepS [.v (.sl 4 (xs.map rStp)), .v (.sl 4 (xs.map rStp))] [.v (.bool true)] := by
  obtain ⟨hlen, hall⟩ := h
  refine S_laws_eqStepS rfl (Nat.le_of_ble_eq_true rfl) ?_
  have key : ∀ k : Nat, L_laws_eqStepS_0 PP [(0, .v (.sl 4 (xs.map rStp))), (1, .v (.sl 4 (xs.map rStp))), (5, .v (.int .i64 k))] [.v (.bool true)] := up xs.length (fun k ih => ?_)
  · repeat' (first | refine run_neI rfl ?_ | refine goM rfl ?_ | refine goR rfl ?_ | refine goX rfl ?_ | refine goY rfl ?_ | refine goA rfl ?_ | refine any_run ?_ | refine any_nil (by kernel_rfl) rfl ?_)
    refine run_loopF rfl ?_
    exact key 0
  · repeat' (first | refine goM rfl ?_ | refine goR rfl ?_ | refine goX rfl ?_ | refine goY rfl ?_ | refine goA rfl ?_ | refine any_run ?_ | refine any_nil (by kernel_rfl) rfl ?_)
    refine run_cnd_lt (n := (xs.map rStp).length) rfl (fun hk => ?_) (fun hk => ?_)
    · rw [List.length_map] at hk
      repeat' (first | refine run_neI rfl ?_ | refine run_neS rfl ?_ | refine mid_idxm rfl rfl hk rfl ?_ | refine goM rfl ?_ | refine goR rfl ?_ | refine goX rfl ?_ | refine goY rfl ?_ | refine goA rfl ?_ | refine any_run ?_ | refine any_nil (by kernel_rfl) rfl ?_ | refine goC (eqStep_ok xs[k] (hall _ (List.getElem_mem hk))) rfl rfl rfl rfl ?_)
      refine run_backF rfl ?_
      rw [wsucc (by omega)]
      exact ih hk
    · repeat' (first | refine goM rfl ?_ | refine goR rfl ?_ | refine goX rfl ?_ | refine goY rfl ?_ | refine goA rfl ?_ | refine any_run ?_ | refine any_nil (by kernel_rfl) rfl ?_)
      (first | refine run_ret rfl ?_ | refine run_done rfl ?_)
      rfl

/- Clue -/
def smClue (x : Clu) : Prop := smStepS x.play
theorem eqClue_ok (x : Clu) (h : smClue x) : CallsOK PP F_laws_eqClue [.agg (rClu x), .agg (rClu x)] [.v (.bool true)] := by
  refine S_laws_eqClue rfl (Nat.le_of_ble_eq_true rfl) ?_
  repeat' (first | refine run_neI rfl ?_ | refine run_neS rfl ?_ | refine goM rfl ?_ | refine goR rfl ?_ | refine goX rfl ?_ | refine goY rfl ?_ | refine goA rfl ?_ | refine any_run ?_ | refine any_nil (by kernel_rfl) rfl ?_ | refine goC (eqStepS_ok x.play (by simp only [smClue] at h; simp_all)) rfl rfl rfl rfl ?_)
  (first | refine run_ret rfl ?_ | refine run_done rfl ?_)
  rfl

/- ClueS -/
def smClueS (xs : List Clu) : Prop := xs.length ≤ 1048576 ∧ ∀ x ∈ xs, smClue x
theorem eqClueS_ok (xs : List Clu) (h : smClueS xs) : CallsOK PP F_laws_eqClueS [.v (.sl 2 (xs.map rClu)), .v (.sl 2 (xs.map rClu))] [.v (.bool true)] := by
  obtain ⟨hlen, hall⟩ := h
  refine S_laws_eqClueS rfl (Nat.le_of_ble_eq_true rfl) ?_
  have key : ∀ k : Nat, L_laws_eqClueS_0 PP [(0, .v (.sl 2 (xs.map rClu))), (1, .v (.sl 2 (xs.map rClu))), (5, .v (.int .i64 k))] [.v (.bool true)] := up xs.length (fun k ih => ?_)
  · repeat' (first | refine run_neI rfl ?_ | refine goM rfl ?_ | refine goR rfl ?_ | refine goX rfl ?_ | refine goY rfl ?_ | refine goA rfl ?_ | refine any_run ?_ | refine any_nil (by kernel_rfl) rfl ?_)
    refine run_loopF rfl ?_
    exact key 0
  · repeat' (first | refine goM rfl ?_ | refine goR rfl ?_ | refine goX rfl ?_ | refine goY rfl ?_ | refine goA rfl ?_ | refine any_run ?_ | refine any_nil (by kernel_rfl) rfl ?_)
    refine run_cnd_lt (n := (xs.map rClu).length) rfl (fun hk => ?_) (fun hk => ?_)
    · rw [List.length_map] at hk
      repeat' (first | refine run_neI rfl ?_ | refine run_neS rfl ?_ | refine mid_idxm rfl rfl hk rfl ?_ | refine goM rfl ?_ | refine goR rfl ?_ | refine goX rfl ?_ | refine goY rfl ?_ | refine goA rfl ?_ | refine any_run ?_ | refine any_nil (by kernel_rfl) rfl ?_ | refine goC (eqClue_ok xs[k] (hall _ (List.getElem_mem hk))) rfl rfl rfl rfl ?_)
      refine run_backF rfl ?_
      rw [wsucc (by omega)]
      exact ih hk
    · repeat' (first | refine goM rfl ?_ | refine goR rfl ?_ | refine goX rfl ?_ | refine goY rfl ?_ | refine goA rfl ?_ | refine any_run ?_ | refine any_nil (by kernel_rfl) rfl ?_)
      (first | refine run_ret rfl ?_ | refine run_done rfl ?_)
      rfl

/- Draft -/
def smDraft (x : Dra) : Prop := smGrid x.grid ∧ smClueS x.clues
theorem eqDraft_ok (x : Dra) (h : smDraft x) : CallsOK PP F_laws_eqDraft [.agg (rDra x), .agg (rDra x)] [.v (.bool true)] := by
  refine S_laws_eqDraft rfl (Nat.le_of_ble_eq_true rfl) ?_
  repeat' (first | refine run_neI rfl ?_ | refine run_neS rfl ?_ | refine goM rfl ?_ | refine goR rfl ?_ | refine goX rfl ?_ | refine goY rfl ?_ | refine goA rfl ?_ | refine any_run ?_ | refine any_nil (by kernel_rfl) rfl ?_ | refine goC (eqGrid_ok x.grid (by simp only [smDraft] at h; simp_all)) rfl rfl rfl rfl ?_ | refine goC (eqClueS_ok x.clues (by simp only [smDraft] at h; simp_all)) rfl rfl rfl rfl ?_)
  (first | refine run_ret rfl ?_ | refine run_done rfl ?_)
  rfl

/- IntS -/
def smIntS (xs : List Int) : Prop := xs.length ≤ 1048576 ∧ True
theorem eqIntS_ok (xs : List Int) (h : smIntS xs) : CallsOK PP F_laws_eqIntS [.v (.sl 1 (xs.map rI)), .v (.sl 1 (xs.map rI))] [.v (.bool true)] := by
  obtain ⟨hlen, hall⟩ := h
  refine S_laws_eqIntS rfl (Nat.le_of_ble_eq_true rfl) ?_
  have key : ∀ k : Nat, L_laws_eqIntS_0 PP [(0, .v (.sl 1 (xs.map rI))), (1, .v (.sl 1 (xs.map rI))), (5, .v (.int .i64 k))] [.v (.bool true)] := up xs.length (fun k ih => ?_)
  · repeat' (first | refine run_neI rfl ?_ | refine goM rfl ?_ | refine goR rfl ?_ | refine goX rfl ?_ | refine goY rfl ?_ | refine goA rfl ?_ | refine any_run ?_ | refine any_nil (by kernel_rfl) rfl ?_)
    refine run_loopF rfl ?_
    exact key 0
  · repeat' (first | refine goM rfl ?_ | refine goR rfl ?_ | refine goX rfl ?_ | refine goY rfl ?_ | refine goA rfl ?_ | refine any_run ?_ | refine any_nil (by kernel_rfl) rfl ?_)
    refine run_cnd_lt (n := (xs.map rI).length) rfl (fun hk => ?_) (fun hk => ?_)
    · rw [List.length_map] at hk
      repeat' (first | refine run_neI rfl ?_ | refine run_neS rfl ?_ | refine mid_idxm rfl rfl hk rfl ?_ | refine goM rfl ?_ | refine goR rfl ?_ | refine goX rfl ?_ | refine goY rfl ?_ | refine goA rfl ?_ | refine any_run ?_ | refine any_nil (by kernel_rfl) rfl ?_)
      refine run_backF rfl ?_
      rw [wsucc (by omega)]
      exact ih hk
    · repeat' (first | refine goM rfl ?_ | refine goR rfl ?_ | refine goX rfl ?_ | refine goY rfl ?_ | refine goA rfl ?_ | refine any_run ?_ | refine any_nil (by kernel_rfl) rfl ?_)
      (first | refine run_ret rfl ?_ | refine run_done rfl ?_)
      rfl

/- Puzzle -/
def smPuzzle (x : Puz) : Prop := smGrid x.grid ∧ smClueS x.clues ∧ smIntS x.seals
theorem eqPuzzle_ok (x : Puz) (h : smPuzzle x) : CallsOK PP F_laws_eqPuzzle [.agg (rPuz x), .agg (rPuz x)] [.v (.bool true)] := by
  refine S_laws_eqPuzzle rfl (Nat.le_of_ble_eq_true rfl) ?_
  repeat' (first | refine run_neI rfl ?_ | refine run_neS rfl ?_ | refine goM rfl ?_ | refine goR rfl ?_ | refine goX rfl ?_ | refine goY rfl ?_ | refine goA rfl ?_ | refine any_run ?_ | refine any_nil (by kernel_rfl) rfl ?_ | refine goC (eqGrid_ok x.grid (by simp only [smPuzzle] at h; simp_all)) rfl rfl rfl rfl ?_ | refine goC (eqClueS_ok x.clues (by simp only [smPuzzle] at h; simp_all)) rfl rfl rfl rfl ?_ | refine goC (eqIntS_ok x.seals (by simp only [smPuzzle] at h; simp_all)) rfl rfl rfl rfl ?_)
  (first | refine run_ret rfl ?_ | refine run_done rfl ?_)
  rfl

/- Issue -/
def smIssue (x : Iss) : Prop := smPuzzle x.puz
theorem eqIssue_ok (x : Iss) (h : smIssue x) : CallsOK PP F_laws_eqIssue [.agg (rIss x), .agg (rIss x)] [.v (.bool true)] := by
  refine S_laws_eqIssue rfl (Nat.le_of_ble_eq_true rfl) ?_
  repeat' (first | refine run_neI rfl ?_ | refine run_neS rfl ?_ | refine goM rfl ?_ | refine goR rfl ?_ | refine goX rfl ?_ | refine goY rfl ?_ | refine goA rfl ?_ | refine any_run ?_ | refine any_nil (by kernel_rfl) rfl ?_ | refine goC (eqPuzzle_ok x.puz (by simp only [smIssue] at h; simp_all)) rfl rfl rfl rfl ?_)
  (first | refine run_ret rfl ?_ | refine run_done rfl ?_)
  rfl

/- IssueS -/
def smIssueS (xs : List Iss) : Prop := xs.length ≤ 1048576 ∧ ∀ x ∈ xs, smIssue x
theorem eqIssueS_ok (xs : List Iss) (h : smIssueS xs) : CallsOK PP F_laws_eqIssueS [.v (.sl 10 (xs.map rIss)), .v (.sl 10 (xs.map rIss))] [.v (.bool true)] := by
  obtain ⟨hlen, hall⟩ := h
  refine S_laws_eqIssueS rfl (Nat.le_of_ble_eq_true rfl) ?_
  have key : ∀ k : Nat, L_laws_eqIssueS_0 PP [(0, .v (.sl 10 (xs.map rIss))), (1, .v (.sl 10 (xs.map rIss))), (5, .v (.int .i64 k))] [.v (.bool true)] := up xs.length (fun k ih => ?_)
  · repeat' (first | refine run_neI rfl ?_ | refine goM rfl ?_ | refine goR rfl ?_ | refine goX rfl ?_ | refine goY rfl ?_ | refine goA rfl ?_ | refine any_run ?_ | refine any_nil (by kernel_rfl) rfl ?_)
    refine run_loopF rfl ?_
    exact key 0
  · repeat' (first | refine goM rfl ?_ | refine goR rfl ?_ | refine goX rfl ?_ | refine goY rfl ?_ | refine goA rfl ?_ | refine any_run ?_ | refine any_nil (by kernel_rfl) rfl ?_)
    refine run_cnd_lt (n := (xs.map rIss).length) rfl (fun hk => ?_) (fun hk => ?_)
    · rw [List.length_map] at hk
      repeat' (first | refine run_neI rfl ?_ | refine run_neS rfl ?_ | refine mid_idxm rfl rfl hk rfl ?_ | refine goM rfl ?_ | refine goR rfl ?_ | refine goX rfl ?_ | refine goY rfl ?_ | refine goA rfl ?_ | refine any_run ?_ | refine any_nil (by kernel_rfl) rfl ?_ | refine goC (eqIssue_ok xs[k] (hall _ (List.getElem_mem hk))) rfl rfl rfl rfl ?_)
      refine run_backF rfl ?_
      rw [wsucc (by omega)]
      exact ih hk
    · repeat' (first | refine goM rfl ?_ | refine goR rfl ?_ | refine goX rfl ?_ | refine goY rfl ?_ | refine goA rfl ?_ | refine any_run ?_ | refine any_nil (by kernel_rfl) rfl ?_)
      (first | refine run_ret rfl ?_ | refine run_done rfl ?_)
      rfl

/- Used -/
def smUsed (x : Use) : Prop := True
theorem eqUsed_ok (x : Use) (h : smUsed x) : CallsOK PP F_laws_eqUsed [.agg (rUse x), .agg (rUse x)] [.v (.bool true)] := by
  refine S_laws_eqUsed rfl (Nat.le_of_ble_eq_true rfl) ?_
  repeat' (first | refine run_neI rfl ?_ | refine run_neS rfl ?_ | refine goM rfl ?_ | refine goR rfl ?_ | refine goX rfl ?_ | refine goY rfl ?_ | refine goA rfl ?_ | refine any_run ?_ | refine any_nil (by kernel_rfl) rfl ?_)
  (first | refine run_ret rfl ?_ | refine run_done rfl ?_)
  rfl

/- UsedS -/
def smUsedS (xs : List Use) : Prop := xs.length ≤ 1048576 ∧ ∀ x ∈ xs, smUsed x
theorem eqUsedS_ok (xs : List Use) (h : smUsedS xs) : CallsOK PP F_laws_eqUsedS [.v (.sl 2 (xs.map rUse)), .v (.sl 2 (xs.map rUse))] [.v (.bool true)] := by
  obtain ⟨hlen, hall⟩ := h
  refine S_laws_eqUsedS rfl (Nat.le_of_ble_eq_true rfl) ?_
  have key : ∀ k : Nat, L_laws_eqUsedS_0 PP [(0, .v (.sl 2 (xs.map rUse))), (1, .v (.sl 2 (xs.map rUse))), (5, .v (.int .i64 k))] [.v (.bool true)] := up xs.length (fun k ih => ?_)
  · repeat' (first | refine run_neI rfl ?_ | refine goM rfl ?_ | refine goR rfl ?_ | refine goX rfl ?_ | refine goY rfl ?_ | refine goA rfl ?_ | refine any_run ?_ | refine any_nil (by kernel_rfl) rfl ?_)
    refine run_loopF rfl ?_
    exact key 0
  · repeat' (first | refine goM rfl ?_ | refine goR rfl ?_ | refine goX rfl ?_ | refine goY rfl ?_ | refine goA rfl ?_ | refine any_run ?_ | refine any_nil (by kernel_rfl) rfl ?_)
    refine run_cnd_lt (n := (xs.map rUse).length) rfl (fun hk => ?_) (fun hk => ?_)
    · rw [List.length_map] at hk
      repeat' (first | refine run_neI rfl ?_ | refine run_neS rfl ?_ | refine mid_idxm rfl rfl hk rfl ?_ | refine goM rfl ?_ | refine goR rfl ?_ | refine goX rfl ?_ | refine goY rfl ?_ | refine goA rfl ?_ | refine any_run ?_ | refine any_nil (by kernel_rfl) rfl ?_ | refine goC (eqUsed_ok xs[k] (hall _ (List.getElem_mem hk))) rfl rfl rfl rfl ?_)
      refine run_backF rfl ?_
      rw [wsucc (by omega)]
      exact ih hk
    · repeat' (first | refine goM rfl ?_ | refine goR rfl ?_ | refine goX rfl ?_ | refine goY rfl ?_ | refine goA rfl ?_ | refine any_run ?_ | refine any_nil (by kernel_rfl) rfl ?_)
      (first | refine run_ret rfl ?_ | refine run_done rfl ?_)
      rfl

/- Correction -/
def smCorrection (x : Cor) : Prop := smClue x.clue
theorem eqCorrection_ok (x : Cor) (h : smCorrection x) : CallsOK PP F_laws_eqCorrection [.agg (rCor x), .agg (rCor x)] [.v (.bool true)] := by
  refine S_laws_eqCorrection rfl (Nat.le_of_ble_eq_true rfl) ?_
  repeat' (first | refine run_neI rfl ?_ | refine run_neS rfl ?_ | refine goM rfl ?_ | refine goR rfl ?_ | refine goX rfl ?_ | refine goY rfl ?_ | refine goA rfl ?_ | refine any_run ?_ | refine any_nil (by kernel_rfl) rfl ?_ | refine goC (eqClue_ok x.clue (by simp only [smCorrection] at h; simp_all)) rfl rfl rfl rfl ?_)
  (first | refine run_ret rfl ?_ | refine run_done rfl ?_)
  rfl

/- CorrectionS -/
def smCorrectionS (xs : List Cor) : Prop := xs.length ≤ 1048576 ∧ ∀ x ∈ xs, smCorrection x
theorem eqCorrectionS_ok (xs : List Cor) (h : smCorrectionS xs) : CallsOK PP F_laws_eqCorrectionS [.v (.sl 5 (xs.map rCor)), .v (.sl 5 (xs.map rCor))] [.v (.bool true)] := by
  obtain ⟨hlen, hall⟩ := h
  refine S_laws_eqCorrectionS rfl (Nat.le_of_ble_eq_true rfl) ?_
  have key : ∀ k : Nat, L_laws_eqCorrectionS_0 PP [(0, .v (.sl 5 (xs.map rCor))), (1, .v (.sl 5 (xs.map rCor))), (5, .v (.int .i64 k))] [.v (.bool true)] := up xs.length (fun k ih => ?_)
  · repeat' (first | refine run_neI rfl ?_ | refine goM rfl ?_ | refine goR rfl ?_ | refine goX rfl ?_ | refine goY rfl ?_ | refine goA rfl ?_ | refine any_run ?_ | refine any_nil (by kernel_rfl) rfl ?_)
    refine run_loopF rfl ?_
    exact key 0
  · repeat' (first | refine goM rfl ?_ | refine goR rfl ?_ | refine goX rfl ?_ | refine goY rfl ?_ | refine goA rfl ?_ | refine any_run ?_ | refine any_nil (by kernel_rfl) rfl ?_)
    refine run_cnd_lt (n := (xs.map rCor).length) rfl (fun hk => ?_) (fun hk => ?_)
    · rw [List.length_map] at hk
      repeat' (first | refine run_neI rfl ?_ | refine run_neS rfl ?_ | refine mid_idxm rfl rfl hk rfl ?_ | refine goM rfl ?_ | refine goR rfl ?_ | refine goX rfl ?_ | refine goY rfl ?_ | refine goA rfl ?_ | refine any_run ?_ | refine any_nil (by kernel_rfl) rfl ?_ | refine goC (eqCorrection_ok xs[k] (hall _ (List.getElem_mem hk))) rfl rfl rfl rfl ?_)
      refine run_backF rfl ?_
      rw [wsucc (by omega)]
      exact ih hk
    · repeat' (first | refine goM rfl ?_ | refine goR rfl ?_ | refine goX rfl ?_ | refine goY rfl ?_ | refine goA rfl ?_ | refine any_run ?_ | refine any_nil (by kernel_rfl) rfl ?_)
      (first | refine run_ret rfl ?_ | refine run_done rfl ?_)
      rfl

/- Entry -/
def smEntry (x : Ent) : Prop := True
theorem eqEntry_ok (x : Ent) (h : smEntry x) : CallsOK PP F_laws_eqEntry [.agg (rEnt x), .agg (rEnt x)] [.v (.bool true)] := by
  refine S_laws_eqEntry rfl (Nat.le_of_ble_eq_true rfl) ?_
  repeat' (first | refine run_neI rfl ?_ | refine run_neS rfl ?_ | refine goM rfl ?_ | refine goR rfl ?_ | refine goX rfl ?_ | refine goY rfl ?_ | refine goA rfl ?_ | refine any_run ?_ | refine any_nil (by kernel_rfl) rfl ?_)
  (first | refine run_ret rfl ?_ | refine run_done rfl ?_)
  rfl

/- EntryS -/
def smEntryS (xs : List Ent) : Prop := xs.length ≤ 1048576 ∧ ∀ x ∈ xs, smEntry x
theorem eqEntryS_ok (xs : List Ent) (h : smEntryS xs) : CallsOK PP F_laws_eqEntryS [.v (.sl 4 (xs.map rEnt)), .v (.sl 4 (xs.map rEnt))] [.v (.bool true)] := by
  obtain ⟨hlen, hall⟩ := h
  refine S_laws_eqEntryS rfl (Nat.le_of_ble_eq_true rfl) ?_
  have key : ∀ k : Nat, L_laws_eqEntryS_0 PP [(0, .v (.sl 4 (xs.map rEnt))), (1, .v (.sl 4 (xs.map rEnt))), (5, .v (.int .i64 k))] [.v (.bool true)] := up xs.length (fun k ih => ?_)
  · repeat' (first | refine run_neI rfl ?_ | refine goM rfl ?_ | refine goR rfl ?_ | refine goX rfl ?_ | refine goY rfl ?_ | refine goA rfl ?_ | refine any_run ?_ | refine any_nil (by kernel_rfl) rfl ?_)
    refine run_loopF rfl ?_
    exact key 0
  · repeat' (first | refine goM rfl ?_ | refine goR rfl ?_ | refine goX rfl ?_ | refine goY rfl ?_ | refine goA rfl ?_ | refine any_run ?_ | refine any_nil (by kernel_rfl) rfl ?_)
    refine run_cnd_lt (n := (xs.map rEnt).length) rfl (fun hk => ?_) (fun hk => ?_)
    · rw [List.length_map] at hk
      repeat' (first | refine run_neI rfl ?_ | refine run_neS rfl ?_ | refine mid_idxm rfl rfl hk rfl ?_ | refine goM rfl ?_ | refine goR rfl ?_ | refine goX rfl ?_ | refine goY rfl ?_ | refine goA rfl ?_ | refine any_run ?_ | refine any_nil (by kernel_rfl) rfl ?_ | refine goC (eqEntry_ok xs[k] (hall _ (List.getElem_mem hk))) rfl rfl rfl rfl ?_)
      refine run_backF rfl ?_
      rw [wsucc (by omega)]
      exact ih hk
    · repeat' (first | refine goM rfl ?_ | refine goR rfl ?_ | refine goX rfl ?_ | refine goY rfl ?_ | refine goA rfl ?_ | refine any_run ?_ | refine any_nil (by kernel_rfl) rfl ?_)
      (first | refine run_ret rfl ?_ | refine run_done rfl ?_)
      rfl

/- House -/
def smHouse (x : Hou) : Prop := smListedS x.list ∧ smMeaningS x.dict ∧ smDraft x.desk ∧ smIssueS x.issues ∧ smUsedS x.uses ∧ smCorrectionS x.cors ∧ smEntryS x.ents
theorem eqHouse_ok (x : Hou) (h : smHouse x) : CallsOK PP F_laws_eqHouse [.agg (rHou x), .agg (rHou x)] [.v (.bool true)] := by
  refine S_laws_eqHouse rfl (Nat.le_of_ble_eq_true rfl) ?_
  repeat' (first | refine run_neI rfl ?_ | refine run_neS rfl ?_ | refine goM rfl ?_ | refine goR rfl ?_ | refine goX rfl ?_ | refine goY rfl ?_ | refine goA rfl ?_ | refine any_run ?_ | refine any_nil (by kernel_rfl) rfl ?_ | refine goC (eqListedS_ok x.list (by simp only [smHouse] at h; simp_all)) rfl rfl rfl rfl ?_ | refine goC (eqMeaningS_ok x.dict (by simp only [smHouse] at h; simp_all)) rfl rfl rfl rfl ?_ | refine goC (eqDraft_ok x.desk (by simp only [smHouse] at h; simp_all)) rfl rfl rfl rfl ?_ | refine goC (eqIssueS_ok x.issues (by simp only [smHouse] at h; simp_all)) rfl rfl rfl rfl ?_ | refine goC (eqUsedS_ok x.uses (by simp only [smHouse] at h; simp_all)) rfl rfl rfl rfl ?_ | refine goC (eqCorrectionS_ok x.cors (by simp only [smHouse] at h; simp_all)) rfl rfl rfl rfl ?_ | refine goC (eqEntryS_ok x.ents (by simp only [smHouse] at h; simp_all)) rfl rfl rfl rfl ?_)
  (first | refine run_ret rfl ?_ | refine run_done rfl ?_)
  rfl
end Go.Rd

namespace Go.Rd
open Go.Proofs
set_option linter.unusedSimpArgs false
set_option linter.unusedVariables false
set_option maxRecDepth 10000
set_option maxHeartbeats 1000000

theorem wdec_neg {n : Nat} {l : Int} (h0 : -1 ≤ l) (h1 : l ≤ 1048576) (hn : n ≤ 140737488355328) (h : l < n) : wdec n l < 0 := by
  unfold wdec; rw [w64 (by omega) (by omega)]; omega
theorem wdec_le {n : Nat} {l : Int} (h0 : -1 ≤ l) (h1 : l ≤ 1048576) (hn : n ≤ 140737488355328) : wdec n l ≤ l := by
  unfold wdec; rw [w64 (by omega) (by omega)]; omega
theorem szLoop_le {α : Type} (f : α → Int → Int) : ∀ (xs : List α) (l : Int), (∀ x ∈ xs, ∀ l, -1 ≤ l → l ≤ 1048576 → f x l ≤ l) → -1 ≤ l → l ≤ 1048576 → szLoop f xs l ≤ 1048576
  | [], l, _, _, h1 => h1
  | x :: xs, l, h, h0, h1 => by
    simp only [szLoop]
    split
    · omega
    · have := h x (by simp) l h0 h1
      exact szLoop_le f xs _ (fun y hy => h y (by simp [hy])) (by omega) (by omega)
theorem szListed_big (xs : List Lis) (l : Int) (hl : wdec xs.length l < 0) : CallsOK PP F_laws_szListedS [.v (.sl 4 (xs.map rLis)), .v (.int .i64 l)] [.v (.int .i64 (-1))] := by
  refine S_laws_szListedS rfl (Nat.le_of_ble_eq_true rfl) ?_
  repeat' (first | refine goM rfl ?_ | refine goR rfl ?_ | refine goX rfl ?_ | refine goY rfl ?_ | refine goA rfl ?_ | refine any_run ?_ | refine any_nil (by kernel_rfl) rfl ?_)
  rw [List.length_map]
  refine run_sz rfl (fun h0 => ?_) (fun h0 => absurd hl h0)
  repeat' (first | refine goM rfl ?_ | refine goR rfl ?_ | refine goX rfl ?_ | refine goY rfl ?_ | refine goA rfl ?_ | refine any_run ?_ | refine any_nil (by kernel_rfl) rfl ?_)
  (first | refine run_ret rfl ?_ | refine run_done rfl ?_)
  rfl
theorem szMeaning_big (xs : List Mea) (l : Int) (hl : wdec xs.length l < 0) : CallsOK PP F_laws_szMeaningS [.v (.sl 2 (xs.map rMea)), .v (.int .i64 l)] [.v (.int .i64 (-1))] := by
  refine S_laws_szMeaningS rfl (Nat.le_of_ble_eq_true rfl) ?_
  repeat' (first | refine goM rfl ?_ | refine goR rfl ?_ | refine goX rfl ?_ | refine goY rfl ?_ | refine goA rfl ?_ | refine any_run ?_ | refine any_nil (by kernel_rfl) rfl ?_)
  rw [List.length_map]
  refine run_sz rfl (fun h0 => ?_) (fun h0 => absurd hl h0)
  repeat' (first | refine goM rfl ?_ | refine goR rfl ?_ | refine goX rfl ?_ | refine goY rfl ?_ | refine goA rfl ?_ | refine any_run ?_ | refine any_nil (by kernel_rfl) rfl ?_)
  (first | refine run_ret rfl ?_ | refine run_done rfl ?_)
  rfl
theorem law_NewHouse (l : List Lis) (d : List Mea) (hl : l.length ≤ 140737488355328) (hd : d.length ≤ 140737488355328) (hw : ∀ x ∈ l, x.word.length ≤ 140737488355328) :
    CallsOK PP F_laws_FnExactNewHouse [.v (dLiss l), .v (dMeas d)] [.v (.bool true)] := by
  refine S_laws_FnExactNewHouse rfl (Nat.le_of_ble_eq_true rfl) ?_
  by_cases hl1 : l.length ≤ 1048576
  case neg =>
    repeat' (first | refine goM rfl ?_ | refine goR rfl ?_ | refine goX rfl ?_ | refine goY rfl ?_ | refine goA rfl ?_ | refine any_run ?_ | refine any_nil (by kernel_rfl) rfl ?_ | refine goC (szListed_big l 1048576 (wdec_neg (by omega) (by omega) hl (by omega))) rfl rfl rfl rfl ?_)
    (first | refine run_ret rfl ?_ | refine run_done rfl ?_)
    rfl
  have hsl : smListedS l := ⟨hl1, fun _ _ => trivial⟩
  repeat' (first | refine goM rfl ?_ | refine goR rfl ?_ | refine goX rfl ?_ | refine goY rfl ?_ | refine goA rfl ?_ | refine any_run ?_ | refine any_nil (by kernel_rfl) rfl ?_ | refine goC (szListedS_ok l 1048576 hsl) rfl rfl rfl rfl ?_)
  have hL1 : szList sz_Listed l 1048576 ≤ 1048576 := by
    unfold szList
    split
    · omega
    · rename_i h
      refine szLoop_le _ _ _ (fun x hx l h0 h1 => ?_) (by omega) (wdec_le (by omega) (by omega) hl)
      simp only [sz_Listed, seqz]
      split
      · omega
      · exact wdec_le h0 h1 (hw x hx)
  generalize szList sz_Listed l 1048576 = L1 at hL1
  refine run_sz rfl (fun _ => ?_) (fun h => ?_)
  · repeat' (first | refine goM rfl ?_ | refine goR rfl ?_ | refine goX rfl ?_ | refine goY rfl ?_ | refine goA rfl ?_ | refine any_run ?_ | refine any_nil (by kernel_rfl) rfl ?_)
    (first | refine run_ret rfl ?_ | refine run_done rfl ?_)
    rfl
  by_cases hd1 : d.length ≤ 1048576
  case neg =>
    repeat' (first | refine goM rfl ?_ | refine goR rfl ?_ | refine goX rfl ?_ | refine goY rfl ?_ | refine goA rfl ?_ | refine any_run ?_ | refine any_nil (by kernel_rfl) rfl ?_ | refine goC (szMeaning_big d L1 (wdec_neg (by omega) (by omega) hd (by omega))) rfl rfl rfl rfl ?_)
    (first | refine run_ret rfl ?_ | refine run_done rfl ?_)
    rfl
  have hsd : smMeaningS d := ⟨hd1, fun _ _ => trivial⟩
  repeat' (first | refine goM rfl ?_ | refine goR rfl ?_ | refine goX rfl ?_ | refine goY rfl ?_ | refine goA rfl ?_ | refine any_run ?_ | refine any_nil (by kernel_rfl) rfl ?_ | refine goC (szMeaningS_ok d L1 hsd) rfl rfl rfl rfl ?_)
  refine run_sz rfl (fun _ => ?_) (fun h => ?_)
  · repeat' (first | refine goM rfl ?_ | refine goR rfl ?_ | refine goX rfl ?_ | refine goY rfl ?_ | refine goA rfl ?_ | refine any_run ?_ | refine any_nil (by kernel_rfl) rfl ?_)
    (first | refine run_ret rfl ?_ | refine run_done rfl ?_)
    rfl
  have hN := NewHouse_ok' l d hl1 hd1
  generalize hA : houOk l d = b1 at hN
  have hz : smHouse ⟨l, d, ⟨⟨0, 0, []⟩, [], [], 0⟩, [], [], [], [], 0⟩ := by
    refine ⟨hsl, hsd, ?_, ?_, ?_, ?_, ?_⟩ <;> simp [smDraft, smGrid, smClueS, smIssueS, smUsedS, smCorrectionS, smEntryS]
  have hz0 : smHouse ⟨[], [], ⟨⟨0, 0, []⟩, [], [], 0⟩, [], [], [], [], 0⟩ := by
    refine ⟨?_, ?_, ?_, ?_, ?_, ?_, ?_⟩ <;> simp [smDraft, smGrid, smClueS, smIssueS, smUsedS, smCorrectionS, smEntryS, smListedS, smMeaningS]
  cases b1
  · -- no house
    rw [if_neg (by decide)] at hN
    repeat' (first | refine goM rfl ?_ | refine goR rfl ?_ | refine goX rfl ?_ | refine goY rfl ?_ | refine goA rfl ?_ | refine any_run ?_ | refine any_nil (by kernel_rfl) rfl ?_)
    refine goC (toListedS_ok l hsl) rfl rfl rfl rfl ?_
    repeat' (first | refine goM rfl ?_ | refine goR rfl ?_ | refine goX rfl ?_ | refine goY rfl ?_ | refine goA rfl ?_ | refine any_run ?_ | refine any_nil (by kernel_rfl) rfl ?_ | refine goC (toMeaningS_ok d hsd) rfl rfl rfl rfl ?_ | refine goC (hN) rfl rfl rfl rfl ?_)
    refine mid_callN 1000 (toListedS_ok l hsl) rfl (vwA_same _) rfl (free_lis l) rfl rfl (by decide) (fun v0 b0 => ?_)
    repeat' (first | refine goM rfl ?_ | refine goR rfl ?_ | refine goX rfl ?_ | refine goY rfl ?_ | refine goA rfl ?_ | refine any_run ?_ | refine any_nil (by kernel_rfl) rfl ?_)
    refine mid_callN 1001 (toMeaningS_ok d hsd) rfl (vwA_same _) rfl (free_mea d) rfl rfl (by decide) (fun v1 b1 => ?_)
    repeat' (first | refine goM rfl ?_ | refine goR rfl ?_ | refine goX rfl ?_ | refine goY rfl ?_ | refine goA rfl ?_ | refine any_run ?_ | refine any_nil (by kernel_rfl) rfl ?_)
    refine mid_callV0 (NewHouse_no l d hl1 hd1 hA) rfl rfl ⟨.v (.heap (m := 1000) rfl (frz_lis l)), .v (.heap (m := 1001) rfl (frz_mea d)), trivial⟩ rfl rfl rfl rfl ?_
    repeat' (first | refine goM rfl ?_ | refine goR rfl ?_ | refine goX rfl ?_ | refine goY rfl ?_ | refine goA rfl ?_ | refine any_run ?_ | refine any_nil (by kernel_rfl) rfl ?_ | refine goC (eqHouse_ok _ hz0) rfl rfl rfl rfl ?_)
    repeat' (first | refine goM rfl ?_ | refine goR rfl ?_ | refine goX rfl ?_ | refine goY rfl ?_ | refine goA rfl ?_ | refine any_run ?_ | refine any_nil (by kernel_rfl) rfl ?_ | refine goC (toListedS_ok l hsl) rfl rfl rfl rfl ?_)
    refine mid_callV0 (eqListedS_ok l hsl) rfl rfl ⟨.v (.heap (m := 1000) rfl (frz_lis l)), .same _, trivial⟩ rfl rfl rfl rfl ?_
    repeat' (first | refine goM rfl ?_ | refine goR rfl ?_ | refine goX rfl ?_ | refine goY rfl ?_ | refine goA rfl ?_ | refine any_run ?_ | refine any_nil (by kernel_rfl) rfl ?_ | refine goC (toMeaningS_ok d hsd) rfl rfl rfl rfl ?_)
    refine mid_callV0 (eqMeaningS_ok d hsd) rfl rfl ⟨.v (.heap (m := 1001) rfl (frz_mea d)), .same _, trivial⟩ rfl rfl rfl rfl ?_
    repeat' (first | refine goM rfl ?_ | refine goR rfl ?_ | refine goX rfl ?_ | refine goY rfl ?_ | refine goA rfl ?_ | refine any_run ?_ | refine any_nil (by kernel_rfl) rfl ?_)
    refine mid_callH1 (m := 1000) (args := fun v => [.v (.val v), .v (.int .i64 ((1 : Nat) : Int))]) (markListedS_ok l 1 hl1 (by decide)) rfl rfl rfl rfl rfl rfl (by decide) (fun bs1 => ?_)
    repeat' (first | refine goM rfl ?_ | refine goR rfl ?_ | refine goX rfl ?_ | refine goY rfl ?_ | refine goA rfl ?_ | refine any_run ?_ | refine any_nil (by kernel_rfl) rfl ?_)
    refine mid_callH1 (m := 1001) (args := fun v => [.v (.val v), .v (.int .i64 ((1 + 4 * l.length : Nat) : Int))]) (markMeaningS_ok d (1 + 4 * l.length) hd1 (by omega)) rfl rfl rfl rfl rfl rfl (by decide) (fun bs2 => ?_)
    repeat' (first | refine goM rfl ?_ | refine goR rfl ?_ | refine goX rfl ?_ | refine goY rfl ?_ | refine goA rfl ?_ | refine any_run ?_ | refine any_nil (by kernel_rfl) rfl ?_)
    repeat' (first | refine goM rfl ?_ | refine goR rfl ?_ | refine goX rfl ?_ | refine goY rfl ?_ | refine goA rfl ?_ | refine any_run ?_ | refine any_nil (by kernel_rfl) rfl ?_ | refine goC (eqHouse_ok _ hz0) rfl rfl rfl rfl ?_ | refine goC (markHouse_z 1 (by decide)) rfl rfl rfl rfl ?_ | refine goC (heldHouse_z 1 (by decide)) rfl rfl rfl rfl ?_)
    refine goC (toListedS_ok l hsl) rfl rfl rfl rfl ?_
    repeat' (first | refine goM rfl ?_ | refine goR rfl ?_ | refine goX rfl ?_ | refine goY rfl ?_ | refine goA rfl ?_ | refine any_run ?_ | refine any_nil (by kernel_rfl) rfl ?_ | refine goC (toMeaningS_ok d hsd) rfl rfl rfl rfl ?_ | refine goC (NewHouse_no l d hl1 hd1 hA) rfl rfl rfl rfl ?_ | refine goC (eqHouse_ok _ hz0) rfl rfl rfl rfl ?_ | refine goC (heldHouse_z 1 (by decide)) rfl rfl rfl rfl ?_)
    (first | refine run_ret rfl ?_ | refine run_done rfl ?_)
    rfl
  · -- a house
    rw [if_pos rfl] at hN
    repeat' (first | refine goM rfl ?_ | refine goR rfl ?_ | refine goX rfl ?_ | refine goY rfl ?_ | refine goA rfl ?_ | refine any_run ?_ | refine any_nil (by kernel_rfl) rfl ?_)
    refine goC (toListedS_ok l hsl) rfl rfl rfl rfl ?_
    repeat' (first | refine goM rfl ?_ | refine goR rfl ?_ | refine goX rfl ?_ | refine goY rfl ?_ | refine goA rfl ?_ | refine any_run ?_ | refine any_nil (by kernel_rfl) rfl ?_ | refine goC (toMeaningS_ok d hsd) rfl rfl rfl rfl ?_ | refine goC (hN) rfl rfl rfl rfl ?_)
    refine mid_callN 1000 (toListedS_ok l hsl) rfl (vwA_same _) rfl (free_lis l) rfl rfl (by decide) (fun v0 b0 => ?_)
    repeat' (first | refine goM rfl ?_ | refine goR rfl ?_ | refine goX rfl ?_ | refine goY rfl ?_ | refine goA rfl ?_ | refine any_run ?_ | refine any_nil (by kernel_rfl) rfl ?_)
    refine mid_callN 1001 (toMeaningS_ok d hsd) rfl (vwA_same _) rfl (free_mea d) rfl rfl (by decide) (fun v1 b1 => ?_)
    repeat' (first | refine goM rfl ?_ | refine goR rfl ?_ | refine goX rfl ?_ | refine goY rfl ?_ | refine goA rfl ?_ | refine any_run ?_ | refine any_nil (by kernel_rfl) rfl ?_)
    refine mid_callV2 (res := fun v v2 => [.agg (zHou (.val v) (.val v2)), .v (.bool true)]) 1002 1003 (NewHouse_yes l d hl1 hd1 hA) rfl rfl ⟨.v (.heap (m := 1000) rfl (frz_lis l)), .v (.heap (m := 1001) rfl (frz_mea d)), trivial⟩ (fun _ _ => rfl) (fun _ _ => rfl) (fun _ _ => rfl) (free_lis l) (free_mea d) rfl rfl (by decide) rfl (by decide) (fun v2 v3 b2 b3 => ?_)
    repeat' (first | refine goM rfl ?_ | refine goR rfl ?_ | refine goX rfl ?_ | refine goY rfl ?_ | refine goA rfl ?_ | refine any_run ?_ | refine any_nil (by kernel_rfl) rfl ?_)
    refine mid_callV0 (eqHouse_ok _ hz) rfl rfl ⟨.agg ⟨.heap (m := 1002) rfl (frz_lis _), .heap (m := 1003) rfl (frz_mea _), vw_same _⟩, .same _, trivial⟩ rfl rfl rfl rfl ?_
    repeat' (first | refine goM rfl ?_ | refine goR rfl ?_ | refine goX rfl ?_ | refine goY rfl ?_ | refine goA rfl ?_ | refine any_run ?_ | refine any_nil (by kernel_rfl) rfl ?_ | refine goC (toListedS_ok l hsl) rfl rfl rfl rfl ?_)
    refine mid_callV0 (eqListedS_ok l hsl) rfl rfl ⟨.v (.heap (m := 1000) rfl (frz_lis l)), .same _, trivial⟩ rfl rfl rfl rfl ?_
    repeat' (first | refine goM rfl ?_ | refine goR rfl ?_ | refine goX rfl ?_ | refine goY rfl ?_ | refine goA rfl ?_ | refine any_run ?_ | refine any_nil (by kernel_rfl) rfl ?_ | refine goC (toMeaningS_ok d hsd) rfl rfl rfl rfl ?_)
    refine mid_callV0 (eqMeaningS_ok d hsd) rfl rfl ⟨.v (.heap (m := 1001) rfl (frz_mea d)), .same _, trivial⟩ rfl rfl rfl rfl ?_
    repeat' (first | refine goM rfl ?_ | refine goR rfl ?_ | refine goX rfl ?_ | refine goY rfl ?_ | refine goA rfl ?_ | refine any_run ?_ | refine any_nil (by kernel_rfl) rfl ?_)
    refine mid_callH1 (m := 1000) (args := fun v => [.v (.val v), .v (.int .i64 ((1 : Nat) : Int))]) (markListedS_ok l 1 hl1 (by decide)) rfl rfl rfl rfl rfl rfl (by decide) (fun bs1 => ?_)
    repeat' (first | refine goM rfl ?_ | refine goR rfl ?_ | refine goX rfl ?_ | refine goY rfl ?_ | refine goA rfl ?_ | refine any_run ?_ | refine any_nil (by kernel_rfl) rfl ?_)
    refine mid_callH1 (m := 1001) (args := fun v => [.v (.val v), .v (.int .i64 ((1 + 4 * l.length : Nat) : Int))]) (markMeaningS_ok d (1 + 4 * l.length) hd1 (by omega)) rfl rfl rfl rfl rfl rfl (by decide) (fun bs2 => ?_)
    repeat' (first | refine goM rfl ?_ | refine goR rfl ?_ | refine goX rfl ?_ | refine goY rfl ?_ | refine goA rfl ?_ | refine any_run ?_ | refine any_nil (by kernel_rfl) rfl ?_)
    refine mid_callV0 (eqHouse_ok _ hz) rfl rfl ⟨.agg ⟨.heap (m := 1002) rfl (frz_lis _), .heap (m := 1003) rfl (frz_mea _), vw_same _⟩, .same _, trivial⟩ rfl rfl rfl rfl ?_
    repeat' (first | refine goM rfl ?_ | refine goR rfl ?_ | refine goX rfl ?_ | refine goY rfl ?_ | refine goA rfl ?_ | refine any_run ?_ | refine any_nil (by kernel_rfl) rfl ?_)
    refine mid_callH2 (m := 1002) (m2 := 1003) (args := fun v v2 => [.agg (zHou (.val v) (.val v2)), .v (.int .i64 ((1 : Nat) : Int))]) (markHouse_ld l d 1 hl1 hd1 (by decide)) rfl rfl (by decide) rfl rfl rfl rfl rfl (by decide) (fun bs3 bs4 => ?_)
    repeat' (first | refine goM rfl ?_ | refine goR rfl ?_ | refine goX rfl ?_ | refine goY rfl ?_ | refine goA rfl ?_ | refine any_run ?_ | refine any_nil (by kernel_rfl) rfl ?_)
    refine mid_callV0 (heldHouse_ld l.length d.length 1 hl1 hd1 (by decide)) rfl rfl ⟨.agg ⟨.heap (m := 1002) rfl (frz_lis _), .heap (m := 1003) rfl (frz_mea _), vw_same _⟩, .same _, trivial⟩ rfl rfl rfl rfl ?_
    repeat' (first | refine run_sz rfl (fun h => absurd h (by omega)) (fun _ => ?_) | refine run_neI rfl ?_ | refine goM rfl ?_ | refine goR rfl ?_ | refine goX rfl ?_ | refine goY rfl ?_ | refine goA rfl ?_ | refine any_run ?_ | refine any_nil (by kernel_rfl) rfl ?_)
    refine goC (toListedS_ok l hsl) rfl rfl rfl rfl ?_
    repeat' (first | refine goM rfl ?_ | refine goR rfl ?_ | refine goX rfl ?_ | refine goY rfl ?_ | refine goA rfl ?_ | refine any_run ?_ | refine any_nil (by kernel_rfl) rfl ?_ | refine goC (toMeaningS_ok d hsd) rfl rfl rfl rfl ?_)
    refine mid_callV2 (res := fun v v2 => [.agg (zHou (.val v) (.val v2)), .v (.bool true)]) 1004 1005 (NewHouse_yes l d hl1 hd1 hA) rfl rfl (vwA_same _) (fun _ _ => rfl) (fun _ _ => rfl) (fun _ _ => rfl) (free_lis l) (free_mea d) rfl rfl (by decide) rfl (by decide) (fun v4 v5 b4 b5 => ?_)
    repeat' (first | refine goM rfl ?_ | refine goR rfl ?_ | refine goX rfl ?_ | refine goY rfl ?_ | refine goA rfl ?_ | refine any_run ?_ | refine any_nil (by kernel_rfl) rfl ?_)
    refine mid_callV0 (eqHouse_ok _ hz) rfl rfl ⟨.agg ⟨.heap (m := 1004) rfl (frz_lis _), .heap (m := 1005) rfl (frz_mea _), vw_same _⟩, .same _, trivial⟩ rfl rfl rfl rfl ?_
    repeat' (first | refine goM rfl ?_ | refine goR rfl ?_ | refine goX rfl ?_ | refine goY rfl ?_ | refine goA rfl ?_ | refine any_run ?_ | refine any_nil (by kernel_rfl) rfl ?_)
    refine mid_callV0 (heldHouse_ld l.length d.length 1 hl1 hd1 (by decide)) rfl rfl ⟨.agg ⟨.heap (m := 1002) rfl (frz_lis _), .heap (m := 1003) rfl (frz_mea _), vw_same _⟩, .same _, trivial⟩ rfl rfl rfl rfl ?_
    repeat' (first | refine run_sz rfl (fun h => absurd h (by omega)) (fun _ => ?_) | refine run_neI rfl ?_ | refine goM rfl ?_ | refine goR rfl ?_ | refine goX rfl ?_ | refine goY rfl ?_ | refine goA rfl ?_ | refine any_run ?_ | refine any_nil (by kernel_rfl) rfl ?_)
    (first | refine run_ret rfl ?_ | refine run_done rfl ?_)
    rfl
end Go.Rd

namespace Go.Rd
open Go.RowKit
def shLis : List Sh := [.str, .int, .int, .int]
def shMea : List Sh := [.str, .int]
theorem lis_of {r : List DV} (h : HasSh (.st shLis) r) : ∃ x : Lis, r = rLis x ∧ x.word.length ≤ reachBytes := by
  simp only [HasSh, shLis, HasShs] at h
  obtain ⟨a, b, rfl, ⟨s, rfl, hs⟩, a2, b2, rfl, ⟨n, rfl, _⟩, a3, b3, rfl, ⟨n3, rfl, _⟩, a4, b4, rfl, ⟨n4, rfl, _⟩, rfl⟩ := h
  exact ⟨⟨s, n, n3, n4⟩, rfl, hs⟩
theorem mea_of {r : List DV} (h : HasSh (.st shMea) r) : ∃ x : Mea, r = rMea x ∧ x.word.length ≤ reachBytes := by
  simp only [HasSh, shMea, HasShs] at h
  obtain ⟨a, b, rfl, ⟨s, rfl, hs⟩, a2, b2, rfl, ⟨n, rfl, _⟩, rfl⟩ := h
  exact ⟨⟨s, n⟩, rfl, hs⟩
theorem liss_of : ∀ {es : List (List DV)}, (∀ r ∈ es, HasSh (.st shLis) r) → ∃ xs : List Lis, es = xs.map rLis ∧ ∀ x ∈ xs, x.word.length ≤ reachBytes
  | [], _ => ⟨[], rfl, by simp⟩
  | r :: rs, h => by
    obtain ⟨x, hx, hl⟩ := lis_of (h r (by simp))
    obtain ⟨xs, hxs, hls⟩ := liss_of (es := rs) (fun q hq => h q (by simp [hq]))
    exact ⟨x :: xs, by simp [hx, hxs], fun y hy => (List.mem_cons.1 hy).elim (fun e => e ▸ hl) (hls y)⟩
theorem meas_of : ∀ {es : List (List DV)}, (∀ r ∈ es, HasSh (.st shMea) r) → ∃ xs : List Mea, es = xs.map rMea ∧ ∀ x ∈ xs, x.word.length ≤ reachBytes
  | [], _ => ⟨[], rfl, by simp⟩
  | r :: rs, h => by
    obtain ⟨x, hx, hl⟩ := mea_of (h r (by simp))
    obtain ⟨xs, hxs, hls⟩ := meas_of (es := rs) (fun q hq => h q (by simp [hq]))
    exact ⟨x :: xs, by simp [hx, hxs], fun y hy => (List.mem_cons.1 hy).elim (fun e => e ▸ hl) (hls y)⟩
end Go.Rd
