import Derived.Test.YtkdgipcfodmceaaGreatFrameA
import Derived.KernelRfl
import Derived.IntWalk
/- A framework of contracts: what a run of a function keeps, part 2. No condition. -/
set_option linter.unusedVariables false
set_option linter.unusedSimpArgs false
namespace Go.Rd
open Go.RowKit
def X.reads : X → List Nat
  | .t n => [n]
  | _ => []
def oReads : Option X → List Nat
  | some x => x.reads
  | none => []
def AOp.reads : AOp → List Nat
  | .mv x | .fld x _ | .ld x | .lda _ x | .not x | .len x | .slen x | .ext x _ | .cvi _ x | .isn _ x | .b2s x => x.reads
  | .pick c a b => c.reads ++ a.reads ++ b.reads
  | .idx _ x i | .sidx x i => x.reads ++ i.reads
  | .bin _ x y | .eqb _ x y | .eqa _ _ x y | .mnx _ x y => x.reads ++ y.reads
  | .ssub x lo hi | .ssl _ x lo hi => x.reads ++ oReads lo ++ oReads hi
  | .bld _ ps => ps.flatMap fun p => p.2.2.reads
  | .bsl _ rows => rows.flatMap X.reads
  | .call _ xs => xs.flatMap X.reads
  | _ => []
def GOp.reads (g : GOp) : List Nat := (match g.guard with | some (n, _) => [n] | none => []) ++ g.op.reads
def Agree (E E' : Env) (n : Nat) : Prop := get E' n = get E n ∧ ∀ m, (get E n).points m = true → get E' m = get E m
theorem vw_congr {E E' : Env} {x : X} (h : ∀ n ∈ x.reads, Agree E E' n) : vw E' x = vw E x := by
  cases x with
  | t n => have := (h n (by simp [X.reads])).1; simp only [vw, this]
  | c d => rfl
  | nil sz => rfl
  | fn f => rfl
theorem vw_target {E E' : Env} {x : X} (h : ∀ n ∈ x.reads, Agree E E' n) : ∀ m, (vw E x).points m = true → get E' m = get E m := by
  intro m hm
  cases x with
  | t n =>
    have := h n (by simp [X.reads])
    simp only [vw] at hm
    cases hg : get E n with
    | own e sz bys es => rw [hg] at hm; have e : n = m := by simpa [Slot.points] using hm
                         subst e; exact this.1
    | box ds => rw [hg] at hm; have e : n = m := by simpa [Slot.points] using hm
                subst e; exact this.1
    | _ => rw [hg] at hm; exact this.2 m (by rw [hg]; exact hm)
  | c d => simp [vw, Slot.points] at hm
  | nil sz => simp [vw, Slot.points] at hm
  | fn f => simp [vw, Slot.points] at hm
theorem vInt_congr {E E' : Env} {x : X} (h : ∀ n ∈ x.reads, Agree E E' n) : vInt E' x = vInt E x := by simp only [vInt, vw_congr h]
theorem vBool_congr {E E' : Env} {x : X} (h : ∀ n ∈ x.reads, Agree E E' n) : vBool E' x = vBool E x := by simp only [vBool, vw_congr h]
theorem vStr_congr {E E' : Env} {x : X} (h : ∀ n ∈ x.reads, Agree E E' n) : vStr E' x = vStr E x := by simp only [vStr, vw_congr h]
theorem vEls_congr {E E' : Env} {x : X} (h : ∀ n ∈ x.reads, Agree E E' n) : vEls E' x = vEls E x := by
  have ht := vw_target h
  simp only [vEls, vw_congr h]
  cases hv : vw E x <;> try rfl
  case v d => cases d <;> rfl
  case al n => dsimp only; rw [ht n (by simp [hv, Slot.points])]
theorem bnd_congr {E E' : Env} {x : Option X} {k : Nat} (h : ∀ n ∈ oReads x, Agree E E' n) : bnd E' x k = bnd E x k := by
  cases x with
  | none => rfl
  | some x => exact vInt_congr h
theorem layParts_congr {E E' : Env} : ∀ (ps : List (Nat × Nat × X)) (cs : List DV), (∀ n ∈ ps.flatMap (fun p => p.2.2.reads), Agree E E' n) → layParts E' cs ps = layParts E cs ps
  | [], cs, _ => rfl
  | (off, sz, x) :: ps, cs, h => by
    have h1 : vw E' x = vw E x := vw_congr (fun n hn => h n (by simp [hn]))
    have h2 : ∀ cs, layParts E' cs ps = layParts E cs ps := fun cs => layParts_congr ps cs (fun n hn => h n (by rw [List.flatMap_cons]; exact List.mem_append_right _ hn))
    simp only [layParts, h1]
    split
    · split
      · exact h2 _
      · rfl
    · split
      · exact h2 _
      · rfl
    · rfl
theorem layRows_congr {E E' : Env} {sz : Nat} : ∀ (xs : List X), (∀ n ∈ xs.flatMap X.reads, Agree E E' n) → layRows E' sz xs = layRows E sz xs
  | [], _ => rfl
  | x :: xs, h => by
    have h1 : vw E' x = vw E x := vw_congr (fun n hn => h n (by rw [List.flatMap_cons]; exact List.mem_append_left _ hn))
    have h2 := layRows_congr (sz := sz) xs (fun n hn => h n (by rw [List.flatMap_cons]; exact List.mem_append_right _ hn))
    simp only [layRows, h1, h2]
theorem argV_congr {E E' : Env} {x : X} (h : ∀ n ∈ x.reads, Agree E E' n) : argV E' x = argV E x := by
  have ht := vw_target h
  simp only [argV, vw_congr h]
  cases hv : vw E x <;> try rfl
  · rename_i n; dsimp only; rw [ht n (by simp [hv, Slot.points])]
  · rename_i n o; dsimp only; rw [ht n (by simp [hv, Slot.points])]
theorem argsV_congr {E E' : Env} : ∀ (xs : List X), (∀ n ∈ xs.flatMap X.reads, Agree E E' n) → argsV E' xs = argsV E xs
  | [], _ => rfl
  | x :: xs, h => by
    have h1 : argV E' x = argV E x := argV_congr (fun n hn => h n (by rw [List.flatMap_cons]; exact List.mem_append_left _ hn))
    have h2 := argsV_congr xs (fun n hn => h n (by rw [List.flatMap_cons]; exact List.mem_append_right _ hn))
    simp only [argsV, h1, h2]
theorem argsPure_congr {E E' : Env} : ∀ (xs : List X), (∀ n ∈ xs.flatMap X.reads, Agree E E' n) → argsPure E' xs = argsPure E xs
  | [], _ => rfl
  | x :: xs, h => by
    have h1 : vw E' x = vw E x := vw_congr (fun n hn => h n (by rw [List.flatMap_cons]; exact List.mem_append_left _ hn))
    have h2 := argsPure_congr xs (fun n hn => h n (by rw [List.flatMap_cons]; exact List.mem_append_right _ hn))
    simp only [argsPure, h1, h2]
theorem ev_congr {E E' : Env} {g : AOp} (h : ∀ n ∈ g.reads, Agree E E' n) : ev E' g = ev E g := by
  cases g <;> simp only [AOp.reads, List.mem_append] at h
  case mv x => simp only [ev, vw_congr h]
  case pick c a b => simp only [ev, vBool_congr (fun n hn => h n (.inl (.inl hn))), vw_congr (fun n hn => h n (.inl (.inr hn))), vw_congr (fun n hn => h n (.inr hn))]
  case fld x off => simp only [ev, vw_congr h]
  case idx sz x i =>
    have h1 : ∀ n ∈ x.reads, Agree E E' n := fun n hn => h n (.inl hn)
    have ht := vw_target h1
    simp only [ev, vInt_congr (fun n hn => h n (.inr hn)), vw_congr h1]
    cases vInt E i with
    | none => rfl
    | some k =>
      cases hv : vw E x <;> try rfl
      case v d => cases d <;> rfl
      case al n => dsimp only; rw [ht n (by simp [hv, Slot.points])]
  case ld x =>
    have ht := vw_target h
    simp only [ev, vw_congr h]
    cases hv : vw E x <;> try rfl
    case ref n o => dsimp only; rw [ht n (by simp [hv, Slot.points])]
    case oel n i o => dsimp only; rw [ht n (by simp [hv, Slot.points])]
    case row ds => cases ds <;> rfl
  case lda m x =>
    have ht := vw_target h
    simp only [ev, vw_congr h]
    cases hv : vw E x <;> try rfl
    · rename_i n o; dsimp only; rw [ht n (by simp [hv, Slot.points])]
    · rename_i n i o; dsimp only; rw [ht n (by simp [hv, Slot.points])]
  case bin op x y => simp only [ev, vw_congr (fun n hn => h n (.inl hn)), vw_congr (fun n hn => h n (.inr hn))]
  case eqb neg x y => simp only [ev, vBool_congr (fun n hn => h n (.inl hn)), vBool_congr (fun n hn => h n (.inr hn))]
  case eqa ks neg x y => simp only [ev, vw_congr (fun n hn => h n (.inl hn)), vw_congr (fun n hn => h n (.inr hn))]
  case not x => simp only [ev, vBool_congr h]
  case len x => simp only [ev, vEls_congr h]
  case slen x => simp only [ev, vStr_congr h]
  case sidx x i => simp only [ev, vStr_congr (fun n hn => h n (.inl hn)), vInt_congr (fun n hn => h n (.inr hn))]
  case ssub x lo hi =>
    simp only [ev, vStr_congr (fun n hn => h n (.inl (.inl hn)))]
    cases vStr E x with
    | none => rfl
    | some s => dsimp only; rw [bnd_congr (fun n hn => h n (.inl (.inr hn))), bnd_congr (fun n hn => h n (.inr hn))]
  case ssl sz x lo hi =>
    simp only [ev, vw_congr (fun n hn => h n (.inl (.inl hn)))]
    cases vw E x <;> try rfl
    rename_i d; cases d <;> try rfl
    dsimp only; rw [bnd_congr (fun n hn => h n (.inl (.inr hn))), bnd_congr (fun n hn => h n (.inr hn))]
  case ext x i => simp only [ev, vw_congr h]
  case bld zero ps => simp only [ev, layParts_congr ps zero h]
  case bsl sz rows => simp only [ev, layRows_congr rows h]
  case cvi k x => simp only [ev, vInt_congr h]
  case mnx b x y => simp only [ev, vw_congr (x := x) (fun n hn => h n (by simp [AOp.reads, hn])), vw_congr (x := y) (fun n hn => h n (by simp [AOp.reads, hn]))]
  case isn neg x => simp only [ev, vEls_congr h]
  case b2s x => simp only [ev, vEls_congr h]
  all_goals rfl
def GOp.floats (g : GOp) : Bool := !g.op.spec && (match g.op with | .callo .. | .callv .. => false | _ => true) && g.dst.isSome
def FStep (P : Program) (g : GOp) (E : Env) (s : Slot) : Prop :=
  ((g.guard = none ∨ ∃ n b, g.guard = some (n, b) ∧ get E n = .v (.bool b)) ∧ (ev E g.op = some s ∨ ∃ f xs, g.op = .call f xs ∧ CallV P E f xs s)) ∨
  (∃ n b, g.guard = some (n, b) ∧ unw (get E n) b ∧ s = .skp)
theorem FStep.congr {P : Program} {g : GOp} {E E' : Env} {s : Slot} (h : ∀ n ∈ g.reads, Agree E E' n) (hf : FStep P g E s) : FStep P g E' s := by
  have hop : ∀ n ∈ g.op.reads, Agree E E' n := fun n hn => h n (List.mem_append_right _ hn)
  have hgd : ∀ n b, g.guard = some (n, b) → get E' n = get E n := fun n b hg => (h n (List.mem_append_left _ (by simp [hg]))).1
  rcases hf with ⟨hg, hv⟩ | ⟨n, b, hg, h1, h3⟩
  · refine .inl ⟨?_, ?_⟩
    · rcases hg with hg | ⟨n, b, hg, h1⟩
      · exact .inl hg
      · exact .inr ⟨n, b, hg, by rw [hgd n b hg]; exact h1⟩
    · rcases hv with hv | ⟨f, xs, hv, args, res, h1, h2, h3, h4⟩
      · exact .inl (by rw [ev_congr hop]; exact hv)
      · rw [hv] at hop
        exact .inr ⟨f, xs, hv, args, res, by rw [argsV_congr xs hop]; exact h1, h2, by rw [argsPure_congr xs hop]; exact h3, h4⟩
  · exact .inr ⟨n, b, hg, by rw [hgd n b hg]; exact h1, h3⟩
theorem FStep.excl {P : Program} {g : GOp} {E : Env} {s : Slot} (hf : FStep P g E s) : s.excl = false := by
  rcases hf with ⟨_, hv⟩ | ⟨n, b, hg, h1, rfl⟩
  · rcases hv with hv | ⟨f, xs, hv, args, res, h1, h2, h3, h4⟩
    · exact ev_excl hv
    · exact resSlot_excl h4
  · rfl
inductive Flo (P : Program) : List GOp → Env → List (Nat × Slot) → Prop
  | nil {E : Env} : Flo P [] E []
  | cons {g : GOp} {gs : List GOp} {d : Nat} {s : Slot} {E : Env} {ps : List (Nat × Slot)} : g.dst = some d → FStep P g E s → Flo P gs ((d, s) :: E) ps → Flo P (g :: gs) E ((d, s) :: ps)
theorem stp_spec {E E' : Env} {dst : Option Nat} {g : AOp} (h : stp E dst g = some E') : g.spec = true := by
  cases g <;> simp [stp] at h <;> rfl
theorem ops_split {P : Program} : ∀ {gs1 gs2 : List GOp} {E E2 : Env}, gs1.all GOp.floats = true → Ops P (gs1 ++ gs2) E E2 → ∃ ps, Flo P gs1 E ps ∧ Ops P gs2 (ps.reverse ++ E) E2
  | [], gs2, E, E2, _, h => ⟨[], .nil, by simpa using h⟩
  | g :: gs1, gs2, E, E2, hf, h => by
    simp only [List.all_cons, Bool.and_eq_true] at hf
    obtain ⟨hg, hf⟩ := hf
    simp only [GOp.floats, Bool.and_eq_true, Bool.not_eq_true'] at hg
    obtain ⟨⟨hsp, hco⟩, hd⟩ := hg
    obtain ⟨d, hd⟩ := Option.isSome_iff_exists.mp hd
    have key : ∀ E1, StepR P g.dst g.op E E1 → ∃ s, E1 = (d, s) :: E ∧ (ev E g.op = some s ∨ ∃ f xs, g.op = .call f xs ∧ CallV P E f xs s) := by
      intro E1 hst
      rw [hd] at hst
      generalize hop : g.op = op at hst hsp hco
      cases hst with
      | pure he _ => exact ⟨_, rfl, .inl he⟩
      | spec he => rw [stp_spec he] at hsp; simp at hsp
      | call hv _ => exact ⟨_, rfl, .inr ⟨_, _, rfl, hv⟩⟩
      | callv => simp at hco
      | callo => simp at hco
    have fin : ∀ (s : Slot), FStep P g E s → Ops P (gs1 ++ gs2) ((d, s) :: E) E2 → ∃ ps, Flo P (g :: gs1) E ps ∧ Ops P gs2 (ps.reverse ++ E) E2 := by
      intro s hs ho
      obtain ⟨ps, h1, h2⟩ := ops_split hf ho
      exact ⟨(d, s) :: ps, .cons hd hs h1, by simpa using h2⟩
    cases h with
    | step hgd hst ho =>
      obtain ⟨s, rfl, hv⟩ := key _ hst
      exact fin s (.inl ⟨.inl hgd, hv⟩) ho
    | gyes hgd hget hst ho =>
      obtain ⟨s, rfl, hv⟩ := key _ hst
      exact fin s (.inl ⟨.inr ⟨_, _, hgd, hget⟩, hv⟩) ho
    | gno hgd hget hsk ho =>
      rw [hd] at hsk
      simp only [skipE] at hsk
      split at hsk
      case isFalse => simp at hsk
      simp only [Option.some.injEq] at hsk; subst hsk
      exact fin .skp (.inr ⟨_, _, hgd, hget, rfl⟩) ho
end Go.Rd

namespace Go.Rd
open Go.RowKit
theorem get_not_mem {n : Nat} : ∀ {A : List (Nat × Slot)} {E : Env}, (∀ p ∈ A, p.1 ≠ n) → get (A ++ E) n = get E n
  | [], E, _ => rfl
  | (d, s) :: A, E, h => by
    simp only [List.cons_append, get]
    rw [if_neg (h (d, s) (by simp))]
    exact get_not_mem (fun p hp => h p (by simp [hp]))
theorem get_mem {d : Nat} {s : Slot} : ∀ {A : List (Nat × Slot)} {E : Env}, (A.map (·.1)).Nodup → (d, s) ∈ A → get (A ++ E) d = s
  | [], _, _, h => by simp at h
  | (d', s') :: A, E, hn, h => by
    simp only [List.map_cons, List.nodup_cons] at hn
    simp only [List.cons_append, get]
    rcases List.mem_cons.1 h with h | h
    · simp at h; simp [h.1, h.2]
    · have : d' ≠ d := fun e => hn.1 (by rw [e]; exact List.mem_map.2 ⟨(d, s), h, rfl⟩)
      rw [if_neg this]
      exact get_mem hn.2 h
def fx (X : Nat → Bool) : List (Nat × Slot) → Nat → List (Nat × Slot)
  | [], _ => []
  | p :: ps, i => if X i then p :: fx X ps (i + 1) else fx X ps (i + 1)
theorem fx_none {X : Nat → Bool} (hX : ∀ i, X i = false) : ∀ (ps : List (Nat × Slot)) (i : Nat), fx X ps i = []
  | [], _ => rfl
  | p :: ps, i => by simp [fx, hX, fx_none hX ps]
theorem fx_sub (X : Nat → Bool) : ∀ (ps : List (Nat × Slot)) (i : Nat), (fx X ps i).Sublist ps
  | [], _ => .slnil
  | p :: ps, i => by
    simp only [fx]
    split
    · exact (fx_sub X ps (i + 1)).cons_cons p
    · exact (fx_sub X ps (i + 1)).cons p
theorem fx_get (X : Nat → Bool) : ∀ (ps : List (Nat × Slot)) (i j : Nat) (d : Nat) (s : Slot), ps[j]? = some (d, s) → X (i + j) = true → (d, s) ∈ fx X ps i
  | [], _, _, _, _, h, _ => by simp at h
  | (d', s') :: ps, i, 0, d, s, h, hx => by
    simp at h; obtain ⟨rfl, rfl⟩ := h
    simp only [Nat.add_zero] at hx
    simp [fx, hx]
  | (d', s') :: ps, i, j + 1, d, s, h, hx => by
    have := fx_get X ps (i + 1) j d s (by simpa using h) (by rw [show i + 1 + j = i + (j + 1) by omega]; exact hx)
    simp only [fx]
    split
    · exact List.mem_cons_of_mem _ this
    · exact this
theorem fx_of (X : Nat → Bool) : ∀ (ps : List (Nat × Slot)) (i : Nat) (p : Nat × Slot), p ∈ fx X ps i → ∃ j, ps[j]? = some p ∧ X (i + j) = true
  | [], _, _, h => by simp [fx] at h
  | q :: ps, i, p, h => by
    simp only [fx] at h
    by_cases hx : X i = true
    · rw [if_pos hx] at h
      rcases List.mem_cons.1 h with rfl | h
      · exact ⟨0, by simp, by simpa using hx⟩
      · obtain ⟨j, h1, h2⟩ := fx_of X ps (i + 1) p h
        exact ⟨j + 1, by simpa using h1, by rw [show i + (j + 1) = i + 1 + j by omega]; exact h2⟩
    · rw [if_neg hx] at h
      obtain ⟨j, h1, h2⟩ := fx_of X ps (i + 1) p h
      exact ⟨j + 1, by simpa using h1, by rw [show i + (j + 1) = i + 1 + j by omega]; exact h2⟩
theorem flo_len {P : Program} {gs : List GOp} {E : Env} {ps : List (Nat × Slot)} (h : Flo P gs E ps) : ps.length = gs.length ∧ ps.map (fun p => some p.1) = gs.map (·.dst) := by
  induction h with
  | nil => simp
  | cons hd _ _ ih => simp [ih.1, ih.2, hd]
theorem flo_at {P : Program} {gs : List GOp} {E : Env} {ps : List (Nat × Slot)} (h : Flo P gs E ps) : ∀ (i : Nat) (g : GOp), gs[i]? = some g → ∃ d s, ps[i]? = some (d, s) ∧ g.dst = some d ∧ FStep P g ((ps.take i).reverse ++ E) s := by
  induction h with
  | nil => intro i g hg; simp at hg
  | @cons g gs d s E ps hd hf _ ih =>
    intro i g' hg
    cases i with
    | zero => simp at hg; subst hg; exact ⟨d, s, by simp, hd, by simpa using hf⟩
    | succ i =>
      obtain ⟨d', s', h1, h2, h3⟩ := ih i g' (by simpa using hg)
      exact ⟨d', s', by simpa using h1, h2, by simpa using h3⟩
def preds (o : Oper) : List Nat := (o.after.toList.filter (Region.binds .any)).map (·.on)
def predsAt (ops : Array Oper) (i : Nat) : List Nat := match ops[i]? with | some o => preds o | none => []
def clOk (ops : Array Oper) (cl : List (List Nat)) : Bool :=
  (List.range ops.size).all fun i => (predsAt ops i).all (fun j => decide (j < i)) && (cl.getD i []).all fun j => (predsAt ops i).contains j || (predsAt ops i).any fun m => (cl.getD m []).contains j
def readsOk (gs : List GOp) (k : Nat) (cl : List (List Nat)) : Bool :=
  (List.range k).all fun i => (match gs[i]? with | some g => g.reads | none => []).all fun n => (List.range k).all fun j => !(match gs[j]? with | some g => g.dst == some n | none => false) || i == j || (cl.getD i []).contains j || (cl.getD j []).contains i
def tailOk (n k : Nat) (cl : List (List Nat)) : Bool := (List.range n).all fun i => decide (i < k) || (List.range i).all fun j => (cl.getD i []).contains j
def nodupB : List (Option Nat) → Bool
  | [] => true
  | x :: xs => !xs.contains x && nodupB xs
def drawOk (P : Program) (ops : Array Oper) (gs : List GOp) (k : Nat) (cl : List (List Nat)) : Bool :=
  clOk ops cl && decide (k ≤ gs.length) && (gs.take k).all GOp.floats && nodupB ((gs.take k).map (·.dst)) && readsOk gs k cl && tailOk ops.size k cl && P.follows .mixedOrders
theorem nodupB_ok : ∀ {l : List (Option Nat)}, nodupB l = true → l.Nodup
  | [], _ => by simp
  | x :: xs, h => by
    simp only [nodupB, Bool.and_eq_true, Bool.not_eq_true'] at h
    exact List.nodup_cons.2 ⟨by simpa using h.1, nodupB_ok h.2⟩
def ClosedL (ops : Array Oper) (listed : Array Bool) : Prop := ∀ i, listed.getD i false = true → ∀ j ∈ predsAt ops i, listed.getD j false = true
theorem clos_mem {ops : Array Oper} {cl : List (List Nat)} {listed : Array Bool} (hcl : clOk ops cl = true) (hX : ClosedL ops listed) : ∀ (i : Nat), i < ops.size → (∀ j ∈ predsAt ops i, listed.getD j false = true) → ∀ j ∈ cl.getD i [], listed.getD j false = true := by
  intro i
  induction i using Nat.strongRecOn with
  | _ i ih =>
    intro hi hp j hj
    have h1 := List.all_eq_true.1 hcl i (List.mem_range.2 hi)
    simp only [Bool.and_eq_true] at h1
    obtain ⟨h2, h3⟩ := h1
    have h4 := List.all_eq_true.1 h3 j hj
    simp only [Bool.or_eq_true, List.any_eq_true] at h4
    rcases h4 with h4 | ⟨m, hm, h5⟩
    · exact hp j (by simpa using h4)
    · have hmi : m < i := by simpa using List.all_eq_true.1 h2 m hm
      exact ih m hmi (by omega) (hX m (hp m hm)) j (by simpa using h5)
theorem ready_spec {ops : Array Oper} {listed : Array Bool} {i : Nat} (hs : listed.size = ops.size) : i ∈ Region.ready .any ops listed ↔ i < ops.size ∧ listed.getD i false = false ∧ ∀ j ∈ predsAt ops i, listed.getD j false = true := by
  unfold Region.ready
  simp only [List.mem_filter, List.mem_range, Bool.and_eq_true, Bool.not_eq_true']
  constructor
  · rintro ⟨hi, hl, hr⟩
    refine ⟨hi, ?_, fun j hj => ?_⟩
    · have : i < listed.size := by omega
      rw [Array.getD_eq_getD_getElem?, Array.getElem?_eq_getElem this] at hl ⊢
      simpa using hl
    · unfold predsAt preds at hj
      rw [Array.getElem?_eq_getElem hi] at hj hr
      simp only [List.mem_map, List.mem_filter, Option.map_some, Option.getD_some] at hj hr
      obtain ⟨e, ⟨he1, he2⟩, rfl⟩ := hj
      rw [← Array.all_toList] at hr
      have := List.all_eq_true.1 hr e he1
      simpa [he2] using this
  · rintro ⟨hi, hl, hp⟩
    refine ⟨hi, ?_, ?_⟩
    · have : i < listed.size := by omega
      rw [Array.getD_eq_getD_getElem?, Array.getElem?_eq_getElem this] at hl ⊢
      simpa using hl
    · rw [Array.getElem?_eq_getElem hi]
      simp only [Option.map_some, Option.getD_some]
      rw [← Array.all_toList]
      refine List.all_eq_true.2 (fun e he => ?_)
      cases hb : Region.binds .any e with
      | false => rfl
      | true =>
        have := hp e.on (by
          unfold predsAt preds
          rw [Array.getElem?_eq_getElem hi]
          exact List.mem_map.2 ⟨e, List.mem_filter.2 ⟨he, hb⟩, rfl⟩)
        simpa using this
theorem ready_nil {ops : Array Oper} {cl : List (List Nat)} {listed : Array Bool} (hs : listed.size = ops.size) (hcl : clOk ops cl = true) (hr : Region.ready .any ops listed = []) : ∀ i, i < ops.size → listed.getD i false = true := by
  intro i
  induction i using Nat.strongRecOn with
  | _ i ih =>
    intro hi
    cases hl : listed.getD i false with
    | true => rfl
    | false =>
      have h1 := List.all_eq_true.1 hcl i (List.mem_range.2 hi)
      simp only [Bool.and_eq_true] at h1
      have : i ∈ Region.ready .any ops listed := (ready_spec hs).2 ⟨hi, hl, fun j hj => by
        have hji : j < i := by simpa using List.all_eq_true.1 h1.1 j hj
        exact ih j hji (by omega)⟩
      rw [hr] at this; simp at this
theorem getD_set {listed : Array Bool} {i : Nat} (hi : i < listed.size) (j : Nat) : (listed.setIfInBounds i true).getD j false = if i = j then true else listed.getD j false := by
  rw [Array.getD_eq_getD_getElem?, Array.getD_eq_getD_getElem?, Array.getElem?_setIfInBounds]
  by_cases h : i = j
  · subst h; simp [hi]
  · simp [h]
section
variable {P : Program} {ok : Nat → Prop} {N : Nat} {B : Bd} {w0 : World} {E : Env} {a : Act} {w : World}
theorem op_one {ops : Array Oper} {Q : Exit → Act → World → Prop} {i : Nat} {o : Oper} {g : GOp} {E1 : Env} (hI : InvO ok N B w0 E a w) (hget : ops[i]? = some o) (hc : chkG P N ops o g = true)
    (hst : ((g.guard = none ∨ ∃ n b, g.guard = some (n, b) ∧ get E n = .v (.bool b)) ∧ StepR P g.dst g.op E E1) ∨ (∃ n b, g.guard = some (n, b) ∧ unw (get E n) b ∧ skipE g.dst E = some E1))
    (K : Act → World → Prop) (hK : ∀ ok' a' w', InvO ok' N B w0 E1 a' w' → (∀ b, ok' b → ok b ∨ B.n ≤ b) → K a' w') : wpOp P ops Q i K a w := by
  have hcg := hc
  simp only [chkG, Bool.and_eq_true, beq_iff_eq] at hcg
  have hdN : ∀ d, g.dst = some d → d < N := fun d hd => by have := hcg.1.1.2; rw [hd] at this; simpa using this
  unfold wpOp
  simp only [hget]
  rcases hst with ⟨hg, hst⟩ | ⟨n, b, hg, h1, hsk⟩
  · have hw : Region.wanted o (yielded ops a.tmps) = true := by
      rcases hg with hg | ⟨n, b, hg, h1⟩
      · exact (wanted_iff hI hc).1 hg
      · rw [(wanted_iff hI hc).2 n b b hg h1]; simp
    simp only [hw, if_true]
    exact .inl (step_done hI hcg.1.1.1 hdN hcg.1.2 hst _ _ hK)
  · have hw : Region.wanted o (yielded ops a.tmps) = false := wanted_no hI hc hg h1
    simp only [hw, Bool.false_eq_true, if_false]
    rw [hcg.1.1.1]
    exact hK ok _ w (hI.skip hdN hsk) (fun _ h => .inl h)
theorem chkGs_get {ops : Array Oper} : ∀ {os : List Oper} {gs : List GOp}, chkGs P N ops os gs = true → os.length = gs.length ∧ ∀ (i : Nat) (o : Oper), os[i]? = some o → ∃ g, gs[i]? = some g ∧ chkG P N ops o g = true
  | [], [], _ => by simp
  | [], _ :: _, h => by simp [chkGs] at h
  | _ :: _, [], h => by simp [chkGs] at h
  | o :: os, g :: gs, h => by
    simp only [chkGs, Bool.and_eq_true] at h
    obtain ⟨h1, h2⟩ := chkGs_get h.2
    refine ⟨by simp [h1], fun i o' ho => ?_⟩
    cases i with
    | zero => simp at ho; subst ho; exact ⟨g, by simp, h.1⟩
    | succ i => simpa using h2 i o' (by simpa using ho)
theorem op_oneK {ops : Array Oper} {Q : Exit → Act → World → Prop} {KE : Env → Prop} {i : Nat} {o : Oper} {g : GOp} {gs : List GOp} (hI : InvO ok N B w0 E a w) (hget : ops[i]? = some o) (hc : chkG P N ops o g = true)
    (hst : HeadK P KE a g gs E) (K : Act → World → Prop) (hK : ∀ E1 ok' a' w', OpsK P KE gs E1 → InvO ok' N B w0 E1 a' w' → (∀ b, ok' b → ok b ∨ B.n ≤ b) → K a' w') : wpOp P ops Q i K a w := by
  have hcg := hc
  simp only [chkG, Bool.and_eq_true, beq_iff_eq] at hcg
  have hdN : ∀ d, g.dst = some d → d < N := fun d hd => by have := hcg.1.1.2; rw [hd] at this; simpa using this
  unfold wpOp
  simp only [hget]
  cases hst with
  | run hg hst hrest =>
    have hw := headK_wanted hc hg
    simp only [hw, if_true]
    exact .inl (hst _ _ _ _ _ _ o hI hcg.1.1.1 hdN hcg.1.2 _ _ (fun u ok' a' w' h1 h2 => hK _ ok' a' w' (hrest u) h1 h2))
  | no hg h1 hsk hrest =>
    have hw : Region.wanted o (yielded ops a.tmps) = false := wanted_no hI hc hg h1
    simp only [hw, Bool.false_eq_true, if_false]
    rw [hcg.1.1.1]
    exact hK _ ok _ w hrest (hI.skip hdN hsk) (fun _ h => .inl h)
theorem draw_tail {ops : Array Oper} {Q : Exit → Act → World → Prop} {gs : List GOp} {cl : List (List Nat)} {k : Nat} (hcl : clOk ops cl = true) (htl : tailOk ops.size k cl = true) (hgs : chkGs P N ops ops.toList gs = true) {K : Env → Prop}
    (hQ : ∀ E2 ok' a' w', K E2 → InvO ok' N B w0 E2 a' w' → (∀ b, ok' b → ok b ∨ B.n ≤ b) → Q .normal a' w') :
    ∀ (fuel : Nat) (m : Nat) (gs2 : List GOp) (E : Env) (ok1 : Nat → Prop) (listed : Array Bool) (a : Act) (w : World), gs2.length ≤ fuel → gs.drop m = gs2 → m ≤ gs.length → k ≤ m → listed.size = ops.size → (∀ i, i < ops.size → (listed.getD i false = true ↔ i < m)) →
      ClosedL ops listed → OpsK P K gs2 E → InvO ok1 N B w0 E a w → (∀ b, ok1 b → ok b ∨ B.n ≤ b) → wpAny P .any ops Q fuel listed a w := by
  obtain ⟨hlen, hat⟩ := chkGs_get hgs
  have hsz : ops.size = gs.length := by simpa using hlen
  have nilready : ∀ (m : Nat) (listed : Array Bool), gs.drop m = [] → listed.size = ops.size → (∀ i, i < ops.size → (listed.getD i false = true ↔ i < m)) → Region.ready .any ops listed = [] := by
    intro m listed hm hs hX
    cases hr : Region.ready .any ops listed with
    | nil => rfl
    | cons i is =>
      have hi : i ∈ Region.ready .any ops listed := by rw [hr]; simp
      obtain ⟨h1, h2, _⟩ := (ready_spec hs).1 hi
      have h3 : gs.length ≤ m := by simpa using hm
      have := (hX i h1).2 (by omega)
      rw [h2] at this; simp at this
  intro fuel
  induction fuel with
  | zero =>
    intro m gs2 E ok1 listed a w hf hd hm hk hs hX hC ho hI hn
    have h0 : gs2 = [] := List.eq_nil_of_length_eq_zero (by omega)
    subst h0
    obtain ⟨ok2, E2, hI2, hn2, hK⟩ := opsK_head ho hI
    exact ⟨nilready m listed hd hs hX, hQ E2 ok2 a w hK hI2 (fun b hb => (hn2 b hb).elim (hn b) .inr)⟩
  | succ fuel ih =>
    intro m gs2 E ok1 listed a w hf hd hm hk hs hX hC ho hI hn
    refine ⟨fun hr => ?_, fun i hi => ?_⟩
    · have hall := ready_nil hs hcl hr
      have hml : gs.length ≤ m := by
        rcases Nat.lt_or_ge m gs.length with h | h
        · have := (hX m (by omega)).1 (hall m (by omega)); omega
        · exact h
      have h0 : gs2 = [] := by rw [← hd]; simpa using hml
      subst h0
      obtain ⟨ok2, E2, hI2, hn2, hK⟩ := opsK_head ho hI
      exact hQ E2 ok2 a w hK hI2 (fun b hb => (hn2 b hb).elim (hn b) .inr)
    · obtain ⟨h1, h2, h3⟩ := (ready_spec hs).1 hi
      have hmi : m ≤ i := by
        rcases Nat.lt_or_ge i m with h | h
        · have := (hX i h1).2 h; rw [h2] at this; simp at this
        · exact h
      have hall : ∀ j, j < i → listed.getD j false = true := by
        intro j hj
        have h4 := List.all_eq_true.1 htl i (List.mem_range.2 h1)
        simp only [Bool.or_eq_true, decide_eq_true_eq] at h4
        rcases h4 with h4 | h4
        · omega
        · exact clos_mem hcl hC i h1 h3 j (by simpa using List.all_eq_true.1 h4 j (List.mem_range.2 hj))
      have him : i = m := by
        rcases Nat.lt_or_ge m i with h | h
        · have := (hX m (by omega)).1 (hall m h); omega
        · omega
      subst him
      have ho2 : ops[i]? = some ops[i] := Array.getElem?_eq_getElem h1
      obtain ⟨g, hg, hcg⟩ := hat i ops[i] (by simp [h1])
      cases gs2 with
      | nil => have : gs.length ≤ i := by simpa using hd
               omega
      | cons g' gs2 =>
        have hg' : g' = g := by
          have := congrArg (·[0]?) hd
          simp [hg] at this; exact this.symm
        subst hg'
        obtain ⟨ok2, E2, hI2, hn2, hst⟩ := opsK_head ho hI
        have hi2 : i < listed.size := by omega
        refine op_oneK hI2 ho2 hcg hst _ (fun E1 ok' a' w' ho' hI' hn' => ih (i + 1) gs2 E1 ok' (listed.setIfInBounds i true) a' w' (by simp at hf; omega) ?_ (by omega) (by omega) (by simp [hs]) ?_ ?_ ho' hI' ?_)
        · have := congrArg (List.drop 1) hd; simpa [List.drop_drop, Nat.add_comm] using this
        · intro j hj
          rw [getD_set hi2]
          by_cases h : i = j
          · simp [h]
          · simp only [h, if_false, hX j hj]; omega
        · intro j hj p hp
          rw [getD_set hi2] at hj ⊢
          by_cases h : i = p
          · simp [h]
          · simp only [h, if_false]
            by_cases h' : i = j
            · subst h'; exact h3 p hp
            · simp only [h', if_false] at hj; exact hC j hj p hp
        · intro b hb
          rcases hn' b hb with h | h
          · exact (hn2 b h).elim (hn b) .inr
          · exact .inr h
end
end Go.Rd

namespace Go.Rd
open Go.RowKit
def cnt (listed : Array Bool) : Nat → Nat
  | 0 => 0
  | n + 1 => cnt listed n + if listed.getD n false then 0 else 1
theorem cnt_set_ge {listed : Array Bool} {i : Nat} (hi : i < listed.size) : ∀ n, n ≤ i → cnt (listed.setIfInBounds i true) n = cnt listed n
  | 0, _ => rfl
  | n + 1, h => by
    simp only [cnt]
    have e : ¬ i = n := by omega
    rw [cnt_set_ge hi n (by omega), getD_set hi n, if_neg e]
theorem cnt_set {listed : Array Bool} {i : Nat} (hi : i < listed.size) (hl : listed.getD i false = false) : ∀ n, i < n → cnt (listed.setIfInBounds i true) n + 1 = cnt listed n
  | 0, h => by omega
  | n + 1, h => by
    simp only [cnt]
    rw [getD_set hi]
    by_cases hin : i = n
    · subst hin
      rw [cnt_set_ge hi i (Nat.le_refl _), hl]; simp
    · rw [if_neg hin]
      have := cnt_set hi hl n (by omega)
      omega
theorem cnt_from {listed : Array Bool} {k : Nat} (h1 : ∀ i, i < k → listed.getD i false = true) : ∀ n, (∀ i, k ≤ i → i < n → listed.getD i false = false) → cnt listed n = n - k
  | 0, _ => by simp [cnt]
  | n + 1, h2 => by
    simp only [cnt]
    rw [cnt_from h1 n (fun i hi hn => h2 i hi (by omega))]
    by_cases h : n < k
    · rw [h1 n h]; simp; omega
    · rw [h2 n (by omega) (by omega)]; simp; omega
theorem cnt_pos {listed : Array Bool} : ∀ n i, i < n → listed.getD i false = false → 0 < cnt listed n
  | 0, _, h, _ => by omega
  | n + 1, i, h, hl => by
    simp only [cnt]
    by_cases hin : i = n
    · subst hin; rw [hl]; simp
    · have := cnt_pos n i (by omega) hl; omega
theorem cnt_none (n : Nat) : ∀ m, cnt (Array.replicate n false) m = m
  | 0 => rfl
  | m + 1 => by
    simp only [cnt, cnt_none n m]
    have : (Array.replicate n false).getD m false = false := by
      rw [Array.getD_eq_getD_getElem?, Array.getElem?_replicate]; split <;> rfl
    simp [this]
theorem nodup_rev {α : Type} {l : List α} (h : l.Nodup) : l.reverse.Nodup := List.pairwise_reverse.2 (h.imp Ne.symm)
section
variable {P : Program} {ok : Nat → Prop} {N : Nat} {B : Bd} {w0 : World} {E : Env} {a : Act} {w : World}
theorem nodup_map_some : ∀ {l : List (Nat × Slot)}, (l.map fun p => some p.1).Nodup → (l.map (·.1)).Nodup
  | [], _ => by simp
  | p :: l, h => by
    simp only [List.map_cons, List.nodup_cons] at h ⊢
    refine ⟨fun hm => h.1 ?_, nodup_map_some h.2⟩
    obtain ⟨q, hq, e⟩ := List.mem_map.1 hm
    exact List.mem_map.2 ⟨q, hq, by simp [e]⟩
theorem nodup_idx {α : Type} : ∀ {l : List α}, l.Nodup → ∀ {i j : Nat} {x : α}, l[i]? = some x → l[j]? = some x → i = j
  | [], _, i, j, x, h, _ => by simp at h
  | y :: l, hn, 0, 0, x, _, _ => rfl
  | y :: l, hn, 0, j + 1, x, h1, h2 => by
    simp at h1 h2; subst h1
    exact absurd (List.mem_of_getElem? h2) (List.nodup_cons.1 hn).1
  | y :: l, hn, i + 1, 0, x, h1, h2 => by
    simp at h1 h2; subst h2
    exact absurd (List.mem_of_getElem? h1) (List.nodup_cons.1 hn).1
  | y :: l, hn, i + 1, j + 1, x, h1, h2 => by
    exact congrArg (· + 1) (nodup_idx (List.nodup_cons.1 hn).2 (i := i) (j := j) (x := x) (by simpa using h1) (by simpa using h2))
theorem draw_ok {ops : Array Oper} {Q : Exit → Act → World → Prop} {gs : List GOp} {cl : List (List Nat)} {k : Nat} (hd : drawOk P ops gs k cl = true) (hgs : chkGs P N ops ops.toList gs = true) {K : Env → Prop} {ps : List (Nat × Slot)}
    (hflo : Flo P (gs.take k) E ps) (htail : OpsK P K (gs.drop k) (ps.reverse ++ E)) (hex : ∀ p ∈ ps, (get E p.1).excl = false)
    (hQ : ∀ E2 ok' a' w', K E2 → InvO ok' N B w0 E2 a' w' → (∀ b, ok' b → ok b ∨ B.n ≤ b) → Q .normal a' w') :
    ∀ (fuel : Nat) (ok1 : Nat → Prop) (listed : Array Bool) (a : Act) (w : World), cnt listed ops.size ≤ fuel → listed.size = ops.size → (∀ i, k ≤ i → listed.getD i false = false) → ClosedL ops listed →
      InvO ok1 N B w0 (fx (fun i => listed.getD i false) ps 0 ++ E) a w → (∀ b, ok1 b → ok b ∨ B.n ≤ b) → wpAny P .any ops Q fuel listed a w := by
  simp only [drawOk, Bool.and_eq_true, decide_eq_true_eq] at hd
  obtain ⟨⟨⟨⟨⟨⟨hcl, hk⟩, hfl⟩, hnd⟩, hrd⟩, htl⟩, _⟩ := hd
  obtain ⟨hlen, hat⟩ := chkGs_get hgs
  have hsz : ops.size = gs.length := by simpa using hlen
  obtain ⟨hpl, hpd⟩ := flo_len hflo
  have hpl' : ps.length = k := by rw [hpl]; simp; omega
  have hndp : (ps.map (·.1)).Nodup := nodup_map_some (by rw [hpd]; exact nodupB_ok hnd)
  have hfxn : ∀ X : Nat → Bool, ((fx X ps 0).map (·.1)).Nodup := fun X => hndp.sublist ((fx_sub X ps 0).map _)
  have hfx : ∀ (X : Nat → Bool) (j d : Nat) (s : Slot), ps[j]? = some (d, s) → get (fx X ps 0 ++ E) d = if X j then s else get E d := fun X j d s h => by
    by_cases hx : X j = true
    · have := fx_get X ps 0 j d s h (by rw [Nat.zero_add]; exact hx)
      rw [if_pos hx]
      exact get_mem (hfxn X) this
    · rw [if_neg hx]
      refine get_not_mem (fun p hp e => ?_)
      obtain ⟨j', h1, h2⟩ := fx_of X ps 0 p hp
      have h3 : (ps.map (·.1))[j']? = some d := by rw [List.getElem?_map, h1]; simp [e]
      have h4 : (ps.map (·.1))[j]? = some d := by rw [List.getElem?_map, h]; simp
      have := nodup_idx hndp h3 h4
      subst this
      rw [Nat.zero_add] at h2; exact hx h2
  have hfo : ∀ (X : Nat → Bool) (n : Nat), (∀ p ∈ ps, p.1 ≠ n) → get (fx X ps 0 ++ E) n = get E n := fun X n h => by
    exact get_not_mem (fun p hp => h p ((fx_sub X ps 0).subset hp))
  have key : ∀ n : Nat, (∀ p ∈ ps, p.1 ≠ n) ∨ ∃ (j : Nat) (s : Slot), ps[j]? = some (n, s) := by
    intro n
    by_cases h : ∃ p ∈ ps, p.1 = n
    · obtain ⟨p, hp, rfl⟩ := h
      obtain ⟨j, hj⟩ := List.getElem?_of_mem hp
      exact .inr ⟨j, p.2, hj⟩
    · exact .inl (fun p hp e => h ⟨p, hp, e⟩)
  have hwhole : ∀ (X : Nat → Bool), (∀ i, i < k → X i = true) → ∀ n, get (ps.reverse ++ E) n = get (fx X ps 0 ++ E) n := by
    intro X hX n
    rcases key n with h | ⟨j, s, h⟩
    · rw [hfo X n h, get_not_mem (fun p hp => h p (by simpa using hp))]
    · have hj : j < k := by rw [← hpl']; exact (List.getElem?_eq_some_iff.1 h).1
      rw [hfx X j n s h, hX j hj, if_pos rfl]
      exact get_mem (by rw [List.map_reverse]; exact nodup_rev hndp) (by simpa using List.mem_of_getElem? h)
  intro fuel
  induction fuel with
  | zero =>
    intro ok1 listed a w hf hs ht hC hI hn
    have hnone : ∀ i, i < ops.size → listed.getD i false = true := by
      intro i hi
      cases hl : listed.getD i false with
      | true => rfl
      | false => have := cnt_pos ops.size i hi hl; omega
    have hkn : ops.size ≤ k := by
      rcases Nat.lt_or_ge k ops.size with h | h
      · have h1 := hnone k h; rw [ht k (Nat.le_refl _)] at h1; simp at h1
      · exact h
    have hgd : gs.drop k = [] := by simp; omega
    rw [hgd] at htail
    obtain ⟨ok2, E2, hI2, hn2, hK⟩ := opsK_head htail (hI.congr (hwhole _ (fun i hi => hnone i (by omega))))
    refine ⟨?_, hQ E2 ok2 a w hK hI2 (fun b hb => (hn2 b hb).elim (hn b) .inr)⟩
    cases hr : Region.ready .any ops listed with
    | nil => rfl
    | cons i is =>
      obtain ⟨h1, h2, _⟩ := (ready_spec hs).1 (by rw [hr]; simp : i ∈ Region.ready .any ops listed)
      rw [hnone i h1] at h2; simp at h2
  | succ fuel ih =>
    intro ok1 listed a w hf hs ht hC hI hn
    by_cases hfull : ∀ i, i < k → listed.getD i false = true
    · -- all that floats has been carried out
      have hlt : ∀ i, i < ops.size → (listed.getD i false = true ↔ i < k) := fun i hi => ⟨fun h => by
        rcases Nat.lt_or_ge i k with h' | h'
        · exact h'
        · rw [ht i h'] at h; simp at h, fun h => hfull i h⟩
      have hc := cnt_from hfull ops.size (fun i hi _ => ht i hi)
      exact draw_tail hcl htl hgs hQ (fuel + 1) k (gs.drop k) (ps.reverse ++ E) ok1 listed a w (by simp; omega) rfl hk (Nat.le_refl _) hs hlt hC htail (hI.congr (hwhole _ hfull)) hn
    · refine ⟨fun hr => ?_, fun i hi => ?_⟩
      · exact absurd (fun i hik => ready_nil hs hcl hr i (by omega)) hfull
      · obtain ⟨h1, h2, h3⟩ := (ready_spec hs).1 hi
        have hik : i < k := by
          rcases Nat.lt_or_ge i k with h | h
          · exact h
          · refine absurd (fun j hj => ?_) hfull
            have h4 := List.all_eq_true.1 htl i (List.mem_range.2 h1)
            simp only [Bool.or_eq_true, decide_eq_true_eq] at h4
            rcases h4 with h4 | h4
            · omega
            · exact clos_mem hcl hC i h1 h3 j (by simpa using List.all_eq_true.1 h4 j (List.mem_range.2 (by omega)))
        have hi2 : i < listed.size := by omega
        have ho2 : ops[i]? = some ops[i] := Array.getElem?_eq_getElem h1
        obtain ⟨g, hg, hcg⟩ := hat i ops[i] (by simp [h1])
        have hgk : (gs.take k)[i]? = some g := by rw [List.getElem?_take, if_pos hik]; exact hg
        obtain ⟨d, s, hpi, hdst, hfs⟩ := flo_at hflo i g hgk
        -- the environments agree on what is read
        have hagree : ∀ n ∈ g.reads, Agree ((ps.take i).reverse ++ E) (fx (fun i => listed.getD i false) ps 0 ++ E) n := by
          have hb : ∀ (i : Nat), i < ops.size → ∀ j ∈ cl.getD i [], j < i := by
            intro i
            induction i using Nat.strongRecOn with
            | _ i ih =>
              intro hi j hj
              have h1 := List.all_eq_true.1 hcl i (List.mem_range.2 hi)
              simp only [Bool.and_eq_true] at h1
              have h4 := List.all_eq_true.1 h1.2 j hj
              simp only [Bool.or_eq_true, List.any_eq_true] at h4
              rcases h4 with h4 | ⟨m, hm, h5⟩
              · simpa using List.all_eq_true.1 h1.1 j (by simpa using h4)
              · have hmi : m < i := by simpa using List.all_eq_true.1 h1.1 m hm
                have := ih m hmi (by omega) j (by simpa using h5)
                omega
          have hnew : ∀ (n j : Nat) (s' : Slot), ps[j]? = some (n, s') → j < i → get ((ps.take i).reverse ++ E) n = s' := by
            intro n j s' h hji
            refine get_mem ?_ ?_
            · have : ((ps.take i).map (·.1)).Nodup := by rw [List.map_take]; exact hndp.sublist (List.take_sublist _ _)
              rw [List.map_reverse]; exact nodup_rev this
            · rw [List.mem_reverse]
              exact List.mem_of_getElem? (by rw [List.getElem?_take, if_pos hji]; exact h)
          have hold : ∀ (n j : Nat) (s' : Slot), ps[j]? = some (n, s') → i ≤ j → get ((ps.take i).reverse ++ E) n = get E n := by
            intro n j s' h hij
            refine get_not_mem (fun p hp e => ?_)
            obtain ⟨j', h1⟩ := List.getElem?_of_mem (List.mem_reverse.1 hp)
            rw [List.getElem?_take] at h1
            split at h1
            · rename_i hj'
              have h3 : (ps.map (·.1))[j']? = some n := by rw [List.getElem?_map, h1]; simp [e]
              have h4 : (ps.map (·.1))[j]? = some n := by rw [List.getElem?_map, h]; simp
              have := nodup_idx hndp h3 h4
              omega
            · simp at h1
          have hone : ∀ n : Nat, (∀ j : Nat, (∃ s : Slot, ps[j]? = some (n, s)) → i = j ∨ j ∈ cl.getD i [] ∨ i ∈ cl.getD j []) → get (fx (fun i => listed.getD i false) ps 0 ++ E) n = get ((ps.take i).reverse ++ E) n := by
            intro n hjs
            rcases key n with h | ⟨j, s', h⟩
            · rw [hfo _ n h, get_not_mem (fun p hp => h p (List.mem_of_mem_take (by simpa using hp)))]
            · have hjk : j < k := by rw [← hpl']; exact (List.getElem?_eq_some_iff.1 h).1
              rcases hjs j ⟨s', h⟩ with hjc | hjc | hjc
              · subst hjc
                rw [hfx _ i n s' h, h2, hold n i s' h (Nat.le_refl _)]; simp
              · have hjl := clos_mem hcl hC i h1 h3 j hjc
                rw [hfx _ j n s' h, hjl, if_pos rfl, hnew n j s' h (hb i h1 j hjc)]
              · have hij := hb j (by omega) i hjc
                have hjl : listed.getD j false = false := by
                  cases hl : listed.getD j false with
                  | false => rfl
                  | true =>
                    have := clos_mem hcl hC j (by omega) (hC j hl) i hjc
                    rw [h2] at this; simp at this
                rw [hfx _ j n s' h, hjl, hold n j s' h (by omega)]; simp
          intro n hnr
          have hself : get (fx (fun i => listed.getD i false) ps 0 ++ E) n = get ((ps.take i).reverse ++ E) n := by
            refine hone n (fun j ⟨s', h⟩ => ?_)
            have hj : j < k := by rw [← hpl']; exact (List.getElem?_eq_some_iff.1 h).1
            have h4 := List.all_eq_true.1 (List.all_eq_true.1 (List.all_eq_true.1 hrd i (List.mem_range.2 hik)) n (by rw [hg]; exact hnr)) j (List.mem_range.2 hj)
            have hgj : ∃ g', gs[j]? = some g' ∧ g'.dst = some n := by
              have hgj1 : j < (gs.take k).length := by simp; omega
              obtain ⟨d2, s2, e1, e2, _⟩ := flo_at hflo j (gs.take k)[j] (List.getElem?_eq_getElem hgj1)
              rw [h] at e1
              simp only [Option.some.injEq, Prod.mk.injEq] at e1
              refine ⟨(gs.take k)[j], ?_, by rw [e2, e1.1]⟩
              have := List.getElem?_eq_getElem hgj1
              rw [List.getElem?_take, if_pos hj] at this
              exact this
            obtain ⟨g', hg1, hg2⟩ := hgj
            rw [hg1] at h4
            simp only [hg2, beq_self_eq_true, Bool.not_true, Bool.false_or, Bool.or_eq_true, beq_iff_eq, List.contains_iff_mem] at h4
            rcases h4 with (h4 | h4) | h4
            · exact .inl h4
            · exact .inr (.inl h4)
            · exact .inr (.inr h4)
          refine ⟨hself, fun m hm => hone m (fun j ⟨s', h⟩ => ?_)⟩
          exfalso
          have hm' : (get (fx (fun i => listed.getD i false) ps 0 ++ E) n).points m = true := by rw [hself]; exact hm
          have hexc := points_excl hm' (hI.slot n)
          rw [hfx _ j m s' h] at hexc
          split at hexc
          · have hgj1 : j < (gs.take k).length := by rw [← hpl]; exact (List.getElem?_eq_some_iff.1 h).1
            obtain ⟨d2, s2, e1, _, hf2⟩ := flo_at hflo j (gs.take k)[j] (List.getElem?_eq_getElem hgj1)
            rw [h] at e1
            simp only [Option.some.injEq, Prod.mk.injEq] at e1
            rw [e1.2, hf2.excl] at hexc; simp at hexc
          · have := hex (m, s') (List.mem_of_getElem? h)
            simp only at this
            rw [this] at hexc; simp at hexc
        have hfs' := hfs.congr hagree
        have hdu : (get (fx (fun i => listed.getD i false) ps 0 ++ E) d).excl = false := by
          rw [hfx _ i d s hpi, h2]
          exact hex (d, s) (List.mem_of_getElem? hpi)
        have hput : ∀ s', okPut d s' (fx (fun i => listed.getD i false) ps 0 ++ E) = true := fun s' => by unfold okPut; rw [hdu]; rfl
        have hE1 : ∀ n, get (fx (fun j => (listed.setIfInBounds i true).getD j false) ps 0 ++ E) n = get ((d, s) :: (fx (fun i => listed.getD i false) ps 0 ++ E)) n := by
          intro n
          simp only [get]
          by_cases hdn : d = n
          · subst hdn
            rw [hfx _ i d s hpi, getD_set hi2]; simp
          · rw [if_neg hdn]
            rcases key n with h | ⟨j, s', h⟩
            · rw [hfo _ n h, hfo _ n h]
            · have hij : i ≠ j := by
                intro e; subst e
                rw [hpi] at h
                simp only [Option.some.injEq, Prod.mk.injEq] at h
                exact hdn h.1
              rw [hfx _ j n s' h, hfx _ j n s' h, getD_set hi2, if_neg hij]
        refine op_one (E1 := (d, s) :: (fx (fun i => listed.getD i false) ps 0 ++ E)) hI ho2 hcg ?_ _ (fun ok' a' w' hI' hn' => ih ok' (listed.setIfInBounds i true) a' w' ?_ (by simp [hs]) ?_ ?_ (hI'.congr hE1) ?_)
        · rcases hfs' with ⟨hgd, hv⟩ | ⟨n, b, hgd, h4, rfl⟩
          · refine .inl ⟨hgd, ?_⟩
            rw [hdst]
            rcases hv with hv | ⟨f, xs, hop, hv⟩
            · exact .pure hv (hput s)
            · rw [hop]; exact .call hv (hput s)
          · refine .inr ⟨n, b, hgd, h4, ?_⟩
            rw [hdst]; simp only [skipE]; rw [if_pos (hput _)]
        · have := cnt_set hi2 h2 ops.size h1; omega
        · intro j hj
          rw [getD_set hi2, if_neg (by omega)]; exact ht j hj
        · intro j hj p hp
          rw [getD_set hi2] at hj ⊢
          by_cases h : i = p
          · simp [h]
          · simp only [h, if_false]
            by_cases h' : i = j
            · subst h'; exact h3 p hp
            · simp only [h', if_false] at hj; exact hC j hj p hp
        · intro b hb
          rcases hn' b hb with h | h
          · exact hn b h
          · exact .inr h
end
end Go.Rd

namespace Go.Rd
open Go.RowKit
structure TrE where
  R : List Nat
  S : List Nat
  W : List (Nat × Slot)
def Loc (P : Program) (g : GOp) (E : Env) (e : TrE) : Prop :=
  ∀ E', (∀ n ∈ e.R, get E' n = get E n) → (∀ n ∈ e.S, noRefs n E' = true) → ∃ E1, (∀ n, get E1 n = get (e.W ++ E') n) ∧
    (((g.guard = none ∨ ∃ n b, g.guard = some (n, b) ∧ get E' n = .v (.bool b)) ∧ SemStep P g.dst g.op E' (fun _ => E1)) ∨ (∃ n b, g.guard = some (n, b) ∧ unw (get E' n) b ∧ skipE g.dst E' = some E1))
inductive Tr (P : Program) : List GOp → Env → List TrE → Env → Prop
  | nil {E : Env} : Tr P [] E [] E
  | cons {g : GOp} {gs : List GOp} {E E2 : Env} {e : TrE} {tr : List TrE} : Loc P g E e → Tr P gs (e.W ++ E) tr E2 → Tr P (g :: gs) E (e :: tr) E2
def hasW (e : TrE) (n : Nat) : Bool := e.W.any fun p => p.1 == n
def cfl (e1 e2 : TrE) : Bool := (e1.W.any fun p => e2.R.contains p.1 || hasW e2 p.1) || e2.W.any fun p => e1.R.contains p.1
def cflOk (cl : List (List Nat)) : List TrE → List TrE → Bool
  | _, [] => true
  | done, e :: tr => (List.range done.length).all (fun i => match done[i]? with | some e1 => !cfl e1 e || (cl.getD done.length []).contains i | none => true) && cflOk cl (done ++ [e]) tr
def noRefsAll (tr : List TrE) (E : Env) : Bool := tr.all fun e => e.S.all fun n => noRefs n E
def anyOk (cl : List (List Nat)) (tr : List TrE) (E : Env) : Bool := cflOk cl [] tr && noRefsAll tr E
def wx (X : Nat → Bool) : List TrE → Nat → Env → Env
  | [], _, E => E
  | e :: tr, i, E => wx X tr (i + 1) (if X i then e.W ++ E else E)
theorem hasW_false {e : TrE} {n : Nat} (h : hasW e n = false) (E : Env) : get (e.W ++ E) n = get E n := by
  refine get_not_mem (fun p hp he => ?_)
  have : hasW e n = true := List.any_eq_true.2 ⟨p, hp, by simp [he]⟩
  rw [h] at this; simp at this
theorem get_app_has : ∀ {W : List (Nat × Slot)} {n : Nat}, (W.any fun p => p.1 == n) = true → ∀ E E' : Env, get (W ++ E) n = get (W ++ E') n
  | [], _, h, _, _ => by simp at h
  | (d, s) :: W, n, h, E, E' => by
    simp only [List.cons_append, get]
    split
    · rfl
    · rename_i hne
      refine get_app_has ?_ E E'
      simp only [List.any_cons, Bool.or_eq_true, beq_iff_eq] at h
      exact h.resolve_left hne
theorem wx_agree {X Y : Nat → Bool} {n : Nat} : ∀ {tr : List TrE} {i : Nat} {E E' : Env}, (∀ j e, tr[j]? = some e → hasW e n = true → X (i + j) = Y (i + j)) → get E n = get E' n → get (wx X tr i E) n = get (wx Y tr i E') n
  | [], _, _, _, _, h => h
  | e :: tr, i, E, E', hj, h => by
    simp only [wx]
    refine wx_agree (fun j e' he hw => ?_) ?_
    · have := hj (j + 1) e' (by simpa using he) hw
      rw [show i + 1 + j = i + (j + 1) by omega]; exact this
    · cases hw : hasW e n with
      | false =>
        have h1 : ∀ F : Env, get (e.W ++ F) n = get F n := hasW_false hw
        split <;> split <;> simp only [h1, h]
      | true =>
        have := hj 0 e (by simp) hw
        simp only [Nat.add_zero] at this
        rw [this]
        split
        · exact get_app_has hw _ _
        · exact h
theorem wx_last {X : Nat → Bool} {n i : Nat} {e : TrE} : ∀ {tr : List TrE} {i0 : Nat} {E : Env}, tr[i]? = some e → hasW e n = true → X (i0 + i) = true → (∀ j e', i < j → tr[j]? = some e' → hasW e' n = true → X (i0 + j) = false) → ∀ F : Env, get (wx X tr i0 E) n = get (e.W ++ F) n := by
  induction i with
  | zero =>
    intro tr i0 E he hw hX hlast F
    cases tr with
    | nil => simp at he
    | cons e0 tr =>
      simp at he; subst he
      simp only [wx, Nat.add_zero] at hX ⊢
      rw [hX, if_pos rfl]
      rw [wx_agree (Y := fun _ => false) (E' := e0.W ++ F) (fun j e' he' hw' => by
        have := hlast (j + 1) e' (by omega) (by simpa using he') hw'
        rw [show i0 + 1 + j = i0 + (j + 1) by omega]; exact this) (get_app_has hw _ _)]
      have : ∀ (tr : List TrE) (i : Nat) (E : Env), wx (fun _ => false) tr i E = E := by
        intro tr
        induction tr with
        | nil => intro i E; rfl
        | cons e tr ih => intro i E; simp [wx, ih]
      rw [this]
  | succ i ih =>
    intro tr i0 E he hw hX hlast F
    cases tr with
    | nil => simp at he
    | cons e0 tr =>
      simp only [wx]
      refine ih (by simpa using he) hw (by rw [show i0 + 1 + i = i0 + (i + 1) by omega]; exact hX) (fun j e' hj he' hw' => ?_) F
      have := hlast (j + 1) e' (by omega) (by simpa using he') hw'
      rw [show i0 + 1 + j = i0 + (j + 1) by omega]; exact this
theorem wx_noRefs {X : Nat → Bool} {n : Nat} : ∀ {tr : List TrE} {i : Nat} {E E' : Env}, (noRefs n E' = true → noRefs n E = true) → noRefs n (wx (fun _ => true) tr i E') = true → noRefs n (wx X tr i E) = true
  | [], _, _, _, h, h2 => h h2
  | e :: tr, i, E, E', h, h2 => by
    simp only [wx, if_true] at h2 ⊢
    have happ : ∀ (W : List (Nat × Slot)) (F : Env), noRefs n (W ++ F) = (noRefs n W && noRefs n F) := by
      intro W F
      induction W with
      | nil => simp [noRefs]
      | cons p W ih => obtain ⟨d, s⟩ := p; simp [noRefs, ih, Bool.and_assoc]
    refine wx_noRefs (E' := e.W ++ E') (fun h3 => ?_) h2
    rw [happ, Bool.and_eq_true] at h3
    split
    · rw [happ, Bool.and_eq_true]; exact ⟨h3.1, h h3.2⟩
    · exact h h3.2
theorem tr_len {P : Program} {gs : List GOp} {E E2 : Env} {tr : List TrE} (h : Tr P gs E tr E2) : tr.length = gs.length ∧ ∀ i, E2 = wx (fun _ => true) tr i E := by
  induction h with
  | nil => exact ⟨rfl, fun _ => rfl⟩
  | cons _ _ ih => exact ⟨by simp [ih.1], fun i => by simp only [wx, if_true]; exact ih.2 (i + 1)⟩
theorem tr_at {P : Program} {gs : List GOp} {E E2 : Env} {tr : List TrE} (h : Tr P gs E tr E2) : ∀ (i i0 : Nat) (g : GOp), gs[i]? = some g → ∃ e, tr[i]? = some e ∧ Loc P g (wx (fun j => decide (j < i0 + i)) tr i0 E) e := by
  induction h with
  | nil => intro i _ g hg; simp at hg
  | @cons g gs E E2 e tr hl _ ih =>
    intro i i0 g' hg
    cases i with
    | zero =>
      simp at hg; subst hg
      refine ⟨e, by simp, ?_⟩
      have : wx (fun j => decide (j < i0 + 0)) (e :: tr) i0 E = E := by
        have : ∀ (tr : List TrE) (i : Nat) (E : Env), i0 ≤ i → wx (fun j => decide (j < i0 + 0)) tr i E = E := by
          intro tr
          induction tr with
          | nil => intro i E _; rfl
          | cons e tr ih => intro i E hi; simp only [wx]; rw [if_neg (by simp; omega)]; exact ih _ _ (by omega)
        exact this _ _ _ (Nat.le_refl _)
      rw [this]; exact hl
    | succ i =>
      obtain ⟨e', h1, h2⟩ := ih i (i0 + 1) g' (by simpa using hg)
      refine ⟨e', by simpa using h1, ?_⟩
      simp only [wx]
      rw [if_pos (by simp)]
      rw [show i0 + (i + 1) = i0 + 1 + i by omega]; exact h2
theorem cflOk_get {cl : List (List Nat)} : ∀ {tr done : List TrE}, cflOk cl done tr = true → ∀ (i j : Nat) (e1 e2 : TrE), i < j → done.length ≤ j → (done ++ tr)[i]? = some e1 → (done ++ tr)[j]? = some e2 → cfl e1 e2 = true → i ∈ cl.getD j []
  | [], done, _, i, j, e1, e2, hij, hdj, h1, h2, _ => by
    have := (List.getElem?_eq_some_iff.1 h2).1
    simp at this; omega
  | e :: tr, done, hc, i, j, e1, e2, hij, hdj, h1, h2, hcf => by
    simp only [cflOk, Bool.and_eq_true] at hc
    rcases Nat.lt_or_ge done.length j with h | h
    · refine cflOk_get hc.2 i j e1 e2 hij (by simp; omega) (by simpa using h1) (by simpa using h2) hcf
    · have e : j = done.length := by omega
      subst e
      rw [List.getElem?_append_left hij] at h1
      rw [List.getElem?_append_right (Nat.le_refl _)] at h2
      simp at h2; subst h2
      have := List.all_eq_true.1 hc.1 i (List.mem_range.2 hij)
      rw [h1] at this
      simpa [hcf] using this
section
variable {P : Program} {ok : Nat → Prop} {N : Nat} {B : Bd} {w0 : World} {E : Env} {a : Act} {w : World}
theorem op_oneS {ops : Array Oper} {Q : Exit → Act → World → Prop} {i : Nat} {o : Oper} {g : GOp} {E1 : Env} (hI : InvO ok N B w0 E a w) (hget : ops[i]? = some o) (hc : chkG P N ops o g = true)
    (hst : ((g.guard = none ∨ ∃ n b, g.guard = some (n, b) ∧ get E n = .v (.bool b)) ∧ SemStep P g.dst g.op E (fun _ => E1)) ∨ (∃ n b, g.guard = some (n, b) ∧ unw (get E n) b ∧ skipE g.dst E = some E1))
    (K : Act → World → Prop) (hK : ∀ ok' a' w', InvO ok' N B w0 E1 a' w' → (∀ b, ok' b → ok b ∨ B.n ≤ b) → K a' w') : wpOp P ops Q i K a w := by
  have hcg := hc
  simp only [chkG, Bool.and_eq_true, beq_iff_eq] at hcg
  have hdN : ∀ d, g.dst = some d → d < N := fun d hd => by have := hcg.1.1.2; rw [hd] at this; simpa using this
  unfold wpOp
  simp only [hget]
  rcases hst with ⟨hg, hst⟩ | ⟨n, b, hg, h1, hsk⟩
  · have hw : Region.wanted o (yielded ops a.tmps) = true := by
      rcases hg with hg | ⟨n, b, hg, h1⟩
      · exact (wanted_iff hI hc).1 hg
      · rw [(wanted_iff hI hc).2 n b b hg h1]; simp
    simp only [hw, if_true]
    exact .inl (hst _ _ _ _ _ _ o hI hcg.1.1.1 hdN hcg.1.2 _ _ (fun _ => hK))
  · have hw : Region.wanted o (yielded ops a.tmps) = false := wanted_no hI hc hg h1
    simp only [hw, Bool.false_eq_true, if_false]
    rw [hcg.1.1.1]
    exact hK ok _ w (hI.skip hdN hsk) (fun _ h => .inl h)
theorem any_ok {ops : Array Oper} {Q : Exit → Act → World → Prop} {gs : List GOp} {cl : List (List Nat)} {tr : List TrE} {E2 : Env} (hcl : clOk ops cl = true) (hgs : chkGs P N ops ops.toList gs = true) (htr : Tr P gs E tr E2) (hok : anyOk cl tr E2 = true)
    (hQ : ∀ ok' a' w', InvO ok' N B w0 E2 a' w' → (∀ b, ok' b → ok b ∨ B.n ≤ b) → Q .normal a' w') :
    ∀ (fuel : Nat) (ok1 : Nat → Prop) (listed : Array Bool) (a : Act) (w : World), cnt listed ops.size ≤ fuel → listed.size = ops.size → ClosedL ops listed →
      InvO ok1 N B w0 (wx (fun i => listed.getD i false) tr 0 E) a w → (∀ b, ok1 b → ok b ∨ B.n ≤ b) → wpAny P .any ops Q fuel listed a w := by
  obtain ⟨hlen, hat⟩ := chkGs_get hgs
  have hsz : ops.size = gs.length := by simpa using hlen
  obtain ⟨htl, hE2⟩ := tr_len htr
  simp only [anyOk, Bool.and_eq_true] at hok
  have hcf : ∀ (i j : Nat) (e1 e2 : TrE), i < j → tr[i]? = some e1 → tr[j]? = some e2 → cfl e1 e2 = true → i ∈ cl.getD j [] := fun i j e1 e2 h h1 h2 h3 => cflOk_get hok.1 i j e1 e2 h (by simp) (by simpa using h1) (by simpa using h2) h3
  have hend : ∀ (listed : Array Bool) (ok1 : Nat → Prop) (a : Act) (w : World), (∀ i, i < ops.size → listed.getD i false = true) → InvO ok1 N B w0 (wx (fun i => listed.getD i false) tr 0 E) a w → (∀ b, ok1 b → ok b ∨ B.n ≤ b) → Q .normal a w := by
    intro listed ok1 a w hall hI hn
    refine hQ ok1 a w (hI.congr (fun n => ?_)) hn
    rw [hE2 0]
    refine wx_agree (fun j e he _ => ?_) rfl
    have : j < tr.length := (List.getElem?_eq_some_iff.1 he).1
    rw [Nat.zero_add]; exact (hall j (by omega)).symm
  intro fuel
  induction fuel with
  | zero =>
    intro ok1 listed a w hf hs hC hI hn
    have hall : ∀ i, i < ops.size → listed.getD i false = true := by
      intro i hi
      cases hl : listed.getD i false with
      | true => rfl
      | false => have := cnt_pos ops.size i hi hl; omega
    refine ⟨?_, hend listed ok1 a w hall hI hn⟩
    cases hr : Region.ready .any ops listed with
    | nil => rfl
    | cons i is =>
      obtain ⟨h1, h2, _⟩ := (ready_spec hs).1 (by rw [hr]; simp : i ∈ Region.ready .any ops listed)
      rw [hall i h1] at h2; simp at h2
  | succ fuel ih =>
    intro ok1 listed a w hf hs hC hI hn
    refine ⟨fun hr => hend listed ok1 a w (ready_nil hs hcl hr) hI hn, fun i hi => ?_⟩
    obtain ⟨h1, h2, h3⟩ := (ready_spec hs).1 hi
    have hi2 : i < listed.size := by omega
    have ho2 : ops[i]? = some ops[i] := Array.getElem?_eq_getElem h1
    obtain ⟨g, hg, hcg⟩ := hat i ops[i] (by simp [h1])
    obtain ⟨e, hte, hloc⟩ := tr_at htr i 0 g hg
    have hX : ∀ j, j < ops.size → i ∈ cl.getD j [] → listed.getD j false = false := by
      intro j hj hij
      cases hl : listed.getD j false with
      | false => rfl
      | true =>
        have := clos_mem hcl hC j hj (hC j hl) i hij
        rw [h2] at this; simp at this
    have hlt : ∀ (j : Nat) (e' : TrE), tr[j]? = some e' → j < ops.size := fun j e' h => by have := (List.getElem?_eq_some_iff.1 h).1; omega
    obtain ⟨E1, hE1, hst⟩ := hloc (wx (fun i => listed.getD i false) tr 0 E) (fun n hn => by
      refine wx_agree (fun j e' he' hw => ?_) rfl
      rw [Nat.zero_add, Nat.zero_add]
      have hwm : ∃ p ∈ e'.W, p.1 = n := by obtain ⟨p, h5, h6⟩ := List.any_eq_true.1 hw; exact ⟨p, h5, by simpa using h6⟩
      obtain ⟨p, hp, hpn⟩ := hwm
      rcases Nat.lt_trichotomy j i with h | h | h
      · have : j ∈ cl.getD i [] := hcf j i e' e h he' hte (by
          simp only [cfl, Bool.or_eq_true]
          exact .inl (List.any_eq_true.2 ⟨p, hp, by simp [hpn, hn]⟩))
        rw [clos_mem hcl hC i h1 h3 j this]; simp [h]
      · subst h; rw [h2]; simp
      · have : i ∈ cl.getD j [] := hcf i j e e' h hte he' (by
          simp only [cfl, Bool.or_eq_true]
          exact .inr (List.any_eq_true.2 ⟨p, hp, by simp [hpn, hn]⟩))
        rw [hX j (hlt j e' he') this]; simp; omega) (fun n hn => by
      have h4 := List.all_eq_true.1 hok.2 e (List.mem_of_getElem? hte)
      have h5 := List.all_eq_true.1 h4 n hn
      rw [hE2 0] at h5
      exact wx_noRefs (E' := E) id h5)
    refine op_oneS hI ho2 hcg hst _ (fun ok' a' w' hI' hn' => ih ok' (listed.setIfInBounds i true) a' w' ?_ (by simp [hs]) ?_ (hI'.congr (fun n => ?_)) (fun b hb => ?_))
    · have := cnt_set hi2 h2 ops.size h1; omega
    · intro j hj p hp
      rw [getD_set hi2] at hj ⊢
      by_cases h : i = p
      · simp [h]
      · simp only [h, if_false]
        by_cases h' : i = j
        · subst h'; exact h3 p hp
        · simp only [h', if_false] at hj; exact hC j hj p hp
    · rw [hE1 n]
      cases hw : hasW e n with
      | false =>
        rw [hasW_false hw]
        refine wx_agree (fun j e' he' hw' => ?_) rfl
        rw [Nat.zero_add, getD_set hi2, if_neg]
        intro hij; subst hij
        rw [hte] at he'; simp at he'; subst he'; rw [hw] at hw'; simp at hw'
      | true =>
        refine (wx_last hte hw ?_ (fun j e' hij he' hw' => ?_) _)
        · rw [Nat.zero_add, getD_set hi2, if_pos rfl]
        · rw [Nat.zero_add, getD_set hi2, if_neg (by omega)]
          obtain ⟨p, hp, hpn⟩ := List.any_eq_true.1 hw
          refine hX j (hlt j e' he') (hcf i j e e' hij hte he' ?_)
          simp only [cfl, Bool.or_eq_true]
          have hpn' : p.1 = n := by simpa using hpn
          exact .inl (List.any_eq_true.2 ⟨p, hp, by simp [hpn', hw']⟩)
    · rcases hn' b hb with h | h
      · exact hn b h
      · exact .inr h
end
end Go.Rd

namespace Go.Rd
open Go.RowKit
def pickL (gs : List GOp) (fl : List Nat) : List GOp := fl.map fun i => gs.getD i default
def incr : List Nat → Nat → Bool
  | [], _ => true
  | i :: fl, n => decide (i < n) && fl.all (fun j => decide (i < j)) && incr fl n
def flOk (cl : List (List Nat)) (fl : List Nat) (tr : List TrE) : Bool :=
  (List.range tr.length).all fun j => (List.range j).all fun i => match tr[i]?, tr[j]? with
    | some e1, some e2 => !cfl e1 e2 || (cl.getD (fl.getD j 0) []).contains (fl.getD i 0)
    | _, _ => true
def spineL (n : Nat) (fl : List Nat) : List Nat := (List.range n).filter fun i => !fl.contains i
def cfS (e : TrE) (R ns : List Nat) : Bool := (e.W.any fun p => R.contains p.1 || ns.contains p.1) || ns.any fun n => e.R.contains n
def spOk (cl : List (List Nat)) (fl : List Nat) (tr : List TrE) (done : List Nat) (i : Nat) (R ns : List Nat) : Bool :=
  done.all (fun j => (cl.getD i []).contains j) && (List.range tr.length).all fun k => match tr[k]? with
    | some e => !cfS e R ns || (cl.getD i []).contains (fl.getD k 0)
    | none => true
inductive SpK (P : Program) (cl : List (List Nat)) (fl : List Nat) (tr : List TrE) (E0 EF : Env) (gs : List GOp) (K : Env → Prop) : List Nat → List Nat → List (Nat × Slot) → Prop
  | nil {done : List Nat} {D : List (Nat × Slot)} : K (D ++ EF) → SpK P cl fl tr E0 EF gs K [] done D
  | cons {i : Nat} {rest done : List Nat} {D : List (Nat × Slot)} {g : GOp} {R ns S : List Nat} {W : Gh → List (Nat × Slot)} : gs[i]? = some g → g.guard = none →
      (∀ E', (∀ n ∈ R, get E' n = get (D ++ EF) n) → (∀ m ∈ S, noRefs m E' = true) → ∃ E1 : Gh → Env, (∀ u n, get (E1 u) n = get (W u ++ E') n) ∧ SemStep P g.dst g.op E' E1) →
      (∀ u, (W u).map (·.1) = ns) → spOk cl fl tr done i R ns = true → (∀ m ∈ S, noRefs m D = true ∧ noRefs m (wx (fun _ => true) tr 0 E0) = true) → (∀ u, SpK P cl fl tr E0 EF gs K rest (i :: done) (W u ++ D)) → SpK P cl fl tr E0 EF gs K (i :: rest) done D
theorem incr_lt : ∀ {fl : List Nat} {n : Nat}, incr fl n = true → ∀ i ∈ fl, i < n
  | [], _, _, i, hi => by simp at hi
  | j :: fl, n, h, i, hi => by
    simp only [incr, Bool.and_eq_true, decide_eq_true_eq] at h
    rcases List.mem_cons.1 hi with rfl | hi
    · exact h.1.1
    · exact incr_lt h.2 i hi
theorem incr_nodup : ∀ {fl : List Nat} {n : Nat}, incr fl n = true → fl.Nodup
  | [], _, _ => by simp
  | j :: fl, n, h => by
    simp only [incr, Bool.and_eq_true, decide_eq_true_eq] at h
    refine List.nodup_cons.2 ⟨fun hj => ?_, incr_nodup h.2⟩
    have := List.all_eq_true.1 h.1.2 j hj
    simp at this
theorem nodup_getD {fl : List Nat} (h : fl.Nodup) {i j : Nat} (hi : i < fl.length) (hj : j < fl.length) (he : fl.getD i 0 = fl.getD j 0) : i = j := by
  rw [List.getD_eq_getElem?_getD, List.getD_eq_getElem?_getD, List.getElem?_eq_getElem hi, List.getElem?_eq_getElem hj] at he
  exact (List.getElem_inj h).1 (by simpa using he)
theorem noRefs_app {n : Nat} : ∀ (W : List (Nat × Slot)) (F : Env), noRefs n (W ++ F) = (noRefs n W && noRefs n F)
  | [], F => by simp [noRefs]
  | (d, s) :: W, F => by simp [noRefs, noRefs_app W F, Bool.and_assoc]
theorem flOk_get {cl : List (List Nat)} {fl : List Nat} {tr : List TrE} (h : flOk cl fl tr = true) {i j : Nat} {e1 e2 : TrE} (hij : i < j) (h1 : tr[i]? = some e1) (h2 : tr[j]? = some e2) (hc : cfl e1 e2 = true) : fl.getD i 0 ∈ cl.getD (fl.getD j 0) [] := by
  have hj : j < tr.length := (List.getElem?_eq_some_iff.1 h2).1
  have := List.all_eq_true.1 (List.all_eq_true.1 h j (List.mem_range.2 hj)) i (List.mem_range.2 hij)
  rw [h1, h2] at this
  simpa [hc] using this
theorem spOk_done {cl : List (List Nat)} {fl : List Nat} {tr : List TrE} {done : List Nat} {i : Nat} {R ns : List Nat} (h : spOk cl fl tr done i R ns = true) : ∀ j ∈ done, j ∈ cl.getD i [] := fun j hj => by
  simp only [spOk, Bool.and_eq_true] at h
  simpa using List.all_eq_true.1 h.1 j hj
theorem spOk_fl {cl : List (List Nat)} {fl : List Nat} {tr : List TrE} {done : List Nat} {i : Nat} {R ns : List Nat} (h : spOk cl fl tr done i R ns = true) {k : Nat} {e : TrE} (hk : tr[k]? = some e) (hc : cfS e R ns = true) : fl.getD k 0 ∈ cl.getD i [] := by
  simp only [spOk, Bool.and_eq_true] at h
  have := List.all_eq_true.1 h.2 k (List.mem_range.2 (List.getElem?_eq_some_iff.1 hk).1)
  rw [hk] at this
  simpa [hc] using this
theorem spK_done {P : Program} {cl : List (List Nat)} {fl : List Nat} {tr : List TrE} {E0 EF : Env} {gs : List GOp} {K : Env → Prop} {rest done : List Nat} {D : List (Nat × Slot)} (h : SpK P cl fl tr E0 EF gs K rest done D) : ∀ i ∈ rest, ∀ j ∈ done, j ∈ cl.getD i [] := by
  induction h with
  | nil => intro i hi; simp at hi
  | @cons i rest done D g R ns S W hg hgd hs hns hok hSS _ ih =>
    intro i' hi' j hj
    rcases List.mem_cons.1 hi' with rfl | hi'
    · exact spOk_done hok j hj
    · exact ih (fun _ => .bool false, fun _ => []) i' hi' j (by simp [hj])
theorem spK_head {P : Program} {cl : List (List Nat)} {fl : List Nat} {tr : List TrE} {E0 EF : Env} {gs : List GOp} {K : Env → Prop} {i0 : Nat} {rest done : List Nat} {D : List (Nat × Slot)} (h : SpK P cl fl tr E0 EF gs K (i0 :: rest) done D) : ∀ i ∈ rest, i0 ∈ cl.getD i [] := by
  cases h with
  | cons _ _ _ _ _ _ hr => exact fun i hi => spK_done (hr (fun _ => .bool false, fun _ => [])) i hi i0 (by simp)
theorem get_D {D : List (Nat × Slot)} {n : Nat} (h : n ∈ D.map (·.1)) (F F' : Env) : get (D ++ F) n = get (D ++ F') n := by
  refine get_app_has ?_ F F'
  obtain ⟨p, hp, e⟩ := List.mem_map.1 h
  exact List.any_eq_true.2 ⟨p, hp, by simp [e]⟩
theorem get_nD {D : List (Nat × Slot)} {n : Nat} (h : n ∉ D.map (·.1)) (F : Env) : get (D ++ F) n = get F n := by
  refine get_not_mem (fun p hp he => ?_)
  exact h (List.mem_map.2 ⟨p, hp, he⟩)
theorem hasW_mem {e : TrE} {n : Nat} (h : hasW e n = true) : ∃ p ∈ e.W, p.1 = n := by
  obtain ⟨p, hp, he⟩ := List.any_eq_true.1 h
  exact ⟨p, hp, by simpa using he⟩
section
variable {P : Program} {ok : Nat → Prop} {N : Nat} {B : Bd} {w0 : World} {E : Env} {a : Act} {w : World}
theorem op_oneG {ops : Array Oper} {Q : Exit → Act → World → Prop} {i : Nat} {o : Oper} {g : GOp} {E1 : Gh → Env} (hI : InvO ok N B w0 E a w) (hget : ops[i]? = some o) (hc : chkG P N ops o g = true) (hg : g.guard = none) (hst : SemStep P g.dst g.op E E1)
    (K : Act → World → Prop) (hK : ∀ u ok' a' w', InvO ok' N B w0 (E1 u) a' w' → (∀ b, ok' b → ok b ∨ B.n ≤ b) → K a' w') : wpOp P ops Q i K a w := by
  have hcg := hc
  simp only [chkG, Bool.and_eq_true, beq_iff_eq] at hcg
  have hdN : ∀ d, g.dst = some d → d < N := fun d hd => by have := hcg.1.1.2; rw [hd] at this; simpa using this
  unfold wpOp
  simp only [hget]
  have hw : Region.wanted o (yielded ops a.tmps) = true := (wanted_iff hI hc).1 hg
  simp only [hw, if_true]
  exact .inl (hst _ _ _ _ _ _ o hI hcg.1.1.1 hdN hcg.1.2 _ _ hK)
theorem mix_ok {ops : Array Oper} {Q : Exit → Act → World → Prop} {gs : List GOp} {cl : List (List Nat)} {fl : List Nat} {tr : List TrE} {EF : Env} {K : Env → Prop} (hcl : clOk ops cl = true) (hgs : chkGs P N ops ops.toList gs = true) (hinc : incr fl gs.length = true) (htr : Tr P (pickL gs fl) E tr EF) (hfl : flOk cl fl tr = true) (hS0 : tr.all (fun e => e.S.isEmpty) = true)
    (hQ : ∀ E' ok' a' w', K E' → InvO ok' N B w0 E' a' w' → (∀ b, ok' b → ok b ∨ B.n ≤ b) → Q .normal a' w') :
    ∀ (fuel : Nat) (ok1 : Nat → Prop) (listed : Array Bool) (rest done : List Nat) (D : List (Nat × Slot)) (a : Act) (w : World), cnt listed ops.size ≤ fuel → listed.size = ops.size → ClosedL ops listed →
      SpK P cl fl tr E EF gs K rest done D → (∀ i, i < ops.size → i ∉ fl → (listed.getD i false = true ↔ i ∈ done)) → (∀ i, i < ops.size → i ∉ fl → listed.getD i false = false → i ∈ rest) → (∀ i ∈ rest, i < ops.size ∧ i ∉ fl ∧ listed.getD i false = false) → rest.Nodup →
      (∀ n ∈ D.map (·.1), ∀ k e, tr[k]? = some e → (n ∈ e.R ∨ hasW e n = true) → listed.getD (fl.getD k 0) false = true) →
      InvO ok1 N B w0 (D ++ wx (fun k => listed.getD (fl.getD k 0) false) tr 0 E) a w → (∀ b, ok1 b → ok b ∨ B.n ≤ b) → wpAny P .any ops Q fuel listed a w := by
  obtain ⟨hlen, hat⟩ := chkGs_get hgs
  have hsz : ops.size = gs.length := by simpa using hlen
  obtain ⟨htl, hEF⟩ := tr_len htr
  have htl' : tr.length = fl.length := by rw [htl]; simp [pickL]
  have hnd := incr_nodup hinc
  have hltf := incr_lt hinc
  have hflt : ∀ k, k < fl.length → fl.getD k 0 < ops.size := fun k hk => by
    rw [hsz]; refine hltf _ ?_
    rw [List.getD_eq_getElem?_getD, List.getElem?_eq_getElem hk]; exact List.getElem_mem hk
  have hend : ∀ (listed : Array Bool) (ok1 : Nat → Prop) (rest done : List Nat) (D : List (Nat × Slot)) (a : Act) (w : World), (∀ i, i < ops.size → listed.getD i false = true) → SpK P cl fl tr E EF gs K rest done D → (∀ i ∈ rest, i < ops.size ∧ i ∉ fl ∧ listed.getD i false = false) →
      InvO ok1 N B w0 (D ++ wx (fun k => listed.getD (fl.getD k 0) false) tr 0 E) a w → (∀ b, ok1 b → ok b ∨ B.n ≤ b) → Q .normal a w := by
    intro listed ok1 rest done D a w hall hsp hrest hI hn
    cases hsp with
    | cons => 
      have := hrest _ (List.mem_cons_self)
      rw [hall _ this.1] at this; simp at this
    | nil hK =>
      refine hQ _ ok1 a w hK (hI.congr (fun n => ?_)) hn
      by_cases hD : n ∈ D.map (·.1)
      · exact get_D hD _ _
      · rw [get_nD hD, get_nD hD, hEF 0]
        refine wx_agree (fun j e he _ => ?_) rfl
        have hj : j < fl.length := by rw [← htl']; exact (List.getElem?_eq_some_iff.1 he).1
        rw [Nat.zero_add]; exact (hall _ (hflt j hj)).symm
  intro fuel
  induction fuel with
  | zero =>
    intro ok1 listed rest done D a w hf hs hC hsp hdn hun hrest hrn hDn hI hn
    have hall : ∀ i, i < ops.size → listed.getD i false = true := by
      intro i hi
      cases hl : listed.getD i false with
      | true => rfl
      | false => have := cnt_pos ops.size i hi hl; omega
    refine ⟨?_, hend listed ok1 rest done D a w hall hsp hrest hI hn⟩
    cases hr : Region.ready .any ops listed with
    | nil => rfl
    | cons i is =>
      obtain ⟨h1, h2, _⟩ := (ready_spec hs).1 (by rw [hr]; simp : i ∈ Region.ready .any ops listed)
      rw [hall i h1] at h2; simp at h2
  | succ fuel ih =>
    intro ok1 listed rest done D a w hf hs hC hsp hdn hun hrest hrn hDn hI hn
    refine ⟨fun hr => hend listed ok1 rest done D a w (ready_nil hs hcl hr) hsp hrest hI hn, fun i hi => ?_⟩
    obtain ⟨h1, h2, h3⟩ := (ready_spec hs).1 hi
    have hi2 : i < listed.size := by omega
    have ho2 : ops[i]? = some ops[i] := Array.getElem?_eq_getElem h1
    obtain ⟨g, hg, hcg⟩ := hat i ops[i] (by simp [h1])
    have hdone : ∀ j ∈ cl.getD i [], listed.getD j false = true := fun j hj => clos_mem hcl hC i h1 h3 j hj
    have hX : ∀ j, j < ops.size → i ∈ cl.getD j [] → listed.getD j false = false := by
      intro j hj hij
      cases hl : listed.getD j false with
      | false => rfl
      | true =>
        have := clos_mem hcl hC j hj (hC j hl) i hij
        rw [h2] at this; simp at this
    have hcnt : cnt (listed.setIfInBounds i true) ops.size ≤ fuel := by have := cnt_set hi2 h2 ops.size h1; omega
    have hC' : ClosedL ops (listed.setIfInBounds i true) := by
      intro j hj p hp
      rw [getD_set hi2] at hj ⊢
      by_cases h : i = p
      · simp [h]
      · simp only [h, if_false]
        by_cases h' : i = j
        · subst h'; exact h3 p hp
        · simp only [h', if_false] at hj; exact hC j hj p hp
    by_cases hif : i ∈ fl
    · -- one that floats
      obtain ⟨k, hk⟩ := List.getElem?_of_mem hif
      have hkl : k < fl.length := (List.getElem?_eq_some_iff.1 hk).1
      have hkD : fl.getD k 0 = i := by rw [List.getD_eq_getElem?_getD, hk]; rfl
      have hgk : (pickL gs fl)[k]? = some g := by
        unfold pickL
        rw [List.getElem?_map, hk]
        simp only [Option.map_some, Option.some.injEq]
        rw [List.getD_eq_getElem?_getD, hg]; rfl
      obtain ⟨e, hte, hloc⟩ := tr_at htr k 0 g hgk
      have heS : e.S = [] := by simpa using List.all_eq_true.1 hS0 e (List.mem_of_getElem? hte)
      have hnoD : ∀ n, (n ∈ e.R ∨ hasW e n = true) → n ∉ D.map (·.1) := fun n hn hD => by
        have := hDn n hD k e hte hn
        rw [hkD, h2] at this; simp at this
      obtain ⟨E1, hE1, hst⟩ := hloc (D ++ wx (fun k => listed.getD (fl.getD k 0) false) tr 0 E) (fun n hn => by
        rw [get_nD (hnoD n (.inl hn))]
        refine wx_agree (fun j e' he' hw => ?_) rfl
        have hjl : j < fl.length := by rw [← htl']; exact (List.getElem?_eq_some_iff.1 he').1
        rw [Nat.zero_add, Nat.zero_add]
        obtain ⟨p, hp, hpn⟩ := hasW_mem hw
        rcases Nat.lt_trichotomy j k with h | h | h
        · have := flOk_get hfl h he' hte (by
            simp only [cfl, Bool.or_eq_true]
            exact .inl (List.any_eq_true.2 ⟨p, hp, by simp [hpn, hn]⟩))
          rw [hkD] at this
          rw [hdone _ this]; simp [h]
        · subst h; rw [hkD, h2]; simp
        · have := flOk_get hfl h hte he' (by
            simp only [cfl, Bool.or_eq_true]
            exact .inr (List.any_eq_true.2 ⟨p, hp, by simp [hpn, hn]⟩))
          rw [hkD] at this
          rw [hX _ (hflt j hjl) this]; simp; omega) (fun n hn => by rw [heS] at hn; simp at hn)
      refine op_oneS hI ho2 hcg hst _ (fun ok' a' w' hI' hn' => ih ok' (listed.setIfInBounds i true) rest done D a' w' hcnt (by simp [hs]) hC' hsp (fun j hj hjf => ?_) (fun j hj hjf hl => ?_) (fun j hj => ?_) hrn (fun n hnD k' e' he' hc' => ?_) (hI'.congr (fun n => ?_)) (fun b hb => (hn' b hb).elim (hn b) .inr))
      · have hne : i ≠ j := fun e => hjf (e ▸ hif)
        rw [getD_set hi2, if_neg hne]; exact hdn j hj hjf
      · have hne : i ≠ j := fun e => hjf (e ▸ hif)
        rw [getD_set hi2, if_neg hne] at hl; exact hun j hj hjf hl
      · obtain ⟨h4, h5, h6⟩ := hrest j hj
        have hne : i ≠ j := fun e => h5 (e ▸ hif)
        exact ⟨h4, h5, by rw [getD_set hi2, if_neg hne]; exact h6⟩
      · rw [getD_set hi2]
        split
        · rfl
        · exact hDn n hnD k' e' he' hc'
      · rw [hE1 n]
        by_cases hD : n ∈ D.map (·.1)
        · have hw : hasW e n = false := by
            cases hw : hasW e n with
            | false => rfl
            | true => exact absurd hD (hnoD n (.inr hw))
          rw [hasW_false hw]; exact get_D hD _ _
        · rw [get_nD hD]
          cases hw : hasW e n with
          | false =>
            rw [hasW_false hw, get_nD hD]
            refine wx_agree (fun j e' he' hw' => ?_) rfl
            have hjl : j < fl.length := by rw [← htl']; exact (List.getElem?_eq_some_iff.1 he').1
            rw [Nat.zero_add, getD_set hi2, if_neg]
            intro hij
            have hjk : j = k := nodup_getD hnd hjl hkl (by rw [hkD, ← hij])
            subst hjk
            rw [hte] at he'; simp at he'; subst he'; rw [hw] at hw'; simp at hw'
          | true =>
            refine (wx_last hte hw ?_ (fun j e' hij he' hw' => ?_) _)
            · rw [Nat.zero_add, hkD, getD_set hi2, if_pos rfl]
            · have hjl : j < fl.length := by rw [← htl']; exact (List.getElem?_eq_some_iff.1 he').1
              obtain ⟨p, hp, hpn⟩ := hasW_mem hw
              have hcl2 := flOk_get hfl hij hte he' (by
                simp only [cfl, Bool.or_eq_true]
                exact .inl (List.any_eq_true.2 ⟨p, hp, by simp [hpn, hw']⟩))
              rw [hkD] at hcl2
              have hne : i ≠ fl.getD j 0 := fun e => by
                have := nodup_getD hnd hkl hjl (by rw [hkD]; exact e)
                omega
              rw [Nat.zero_add, getD_set hi2, if_neg hne]
              exact hX _ (hflt j hjl) hcl2
    · -- one that waits
      have hir := hun i h1 hif h2
      cases hsp with
      | nil => simp at hir
      | @cons i0 rest' _ _ g0 R ns S W hg0 hgd hs0 hns hok hSS hr =>
        have hii : i = i0 := by
          rcases List.mem_cons.1 hir with h | h
          · exact h
          · have h4 := spK_head (SpK.cons hg0 hgd hs0 hns hok hSS hr) i h
            have h5 := hdone i0 h4
            rw [(hrest i0 (by simp)).2.2] at h5; simp at h5
        subst hii
        rw [hg] at hg0; simp only [Option.some.injEq] at hg0; subst hg0
        obtain ⟨E1, hE1, hst⟩ := hs0 (D ++ wx (fun k => listed.getD (fl.getD k 0) false) tr 0 E) (fun n hn => by
          by_cases hD : n ∈ D.map (·.1)
          · exact get_D hD _ _
          · rw [get_nD hD, get_nD hD, hEF 0]
            refine wx_agree (fun j e he hw => ?_) rfl
            obtain ⟨p, hp, hpn⟩ := hasW_mem hw
            have := spOk_fl hok he (by
              simp only [cfS, Bool.or_eq_true]
              exact .inl (List.any_eq_true.2 ⟨p, hp, by simp [hpn, hn]⟩))
            rw [Nat.zero_add, hdone _ this]) (fun m hm => by rw [noRefs_app, (hSS m hm).1, wx_noRefs id (hSS m hm).2]; rfl)
        have hXX : (fun k => (listed.setIfInBounds i true).getD (fl.getD k 0) false) = fun k => if k < fl.length then listed.getD (fl.getD k 0) false else (listed.setIfInBounds i true).getD (fl.getD k 0) false := by
          funext k
          by_cases hk : k < fl.length
          · rw [if_pos hk, getD_set hi2, if_neg]
            intro e
            apply hif
            rw [e, List.getD_eq_getElem?_getD, List.getElem?_eq_getElem hk]; exact List.getElem_mem hk
          · rw [if_neg hk]
        refine op_oneG hI ho2 hcg hgd hst _ (fun u ok' a' w' hI' hn' => ih ok' (listed.setIfInBounds i true) rest' (i :: done) (W u ++ D) a' w' hcnt (by simp [hs]) hC' (hr u) (fun j hj hjf => ?_) (fun j hj hjf hl => ?_) (fun j hj => ?_) (List.nodup_cons.1 hrn).2 (fun n hnD k' e' he' hc' => ?_) (hI'.congr (fun n => ?_)) (fun b hb => (hn' b hb).elim (hn b) .inr))
        · rw [getD_set hi2]
          by_cases e : i = j
          · subst e; simp
          · rw [if_neg e, hdn j hj hjf]; simp [Ne.symm e]
        · rw [getD_set hi2] at hl
          split at hl
          · simp at hl
          · rename_i hne
            exact (List.mem_cons.1 (hun j hj hjf hl)).resolve_left (fun e => hne e.symm)
        · obtain ⟨h4, h5, h6⟩ := hrest j (by simp [hj])
          have hne : i ≠ j := fun e => (List.nodup_cons.1 hrn).1 (e ▸ hj)
          exact ⟨h4, h5, by rw [getD_set hi2, if_neg hne]; exact h6⟩
        · rw [List.map_append, List.mem_append] at hnD
          have hkl : k' < fl.length := by rw [← htl']; exact (List.getElem?_eq_some_iff.1 he').1
          rw [getD_set hi2]
          split
          · rfl
          · rcases hnD with hnD | hnD
            · rw [hns u] at hnD
              refine hdone _ (spOk_fl hok he' ?_)
              simp only [cfS, Bool.or_eq_true]
              rcases hc' with h | h
              · exact .inr (List.any_eq_true.2 ⟨n, hnD, by simpa using h⟩)
              · obtain ⟨p, hp, hpn⟩ := hasW_mem h
                exact .inl (List.any_eq_true.2 ⟨p, hp, by simp [hpn, hnD]⟩)
            · exact hDn n hnD k' e' he' hc'
        · rw [hE1 u n, List.append_assoc]
          by_cases hWu : n ∈ (W u).map (·.1)
          · exact get_D hWu _ _
          · rw [get_nD hWu, get_nD hWu]
            by_cases hD : n ∈ D.map (·.1)
            · exact get_D hD _ _
            · rw [get_nD hD, get_nD hD]
              refine wx_agree (fun j e he _ => ?_) rfl
              have hjl : j < fl.length := by rw [← htl']; exact (List.getElem?_eq_some_iff.1 he).1
              rw [Nat.zero_add]
              have := congrFun hXX j
              simp only [if_pos hjl] at this
              exact this
end
end Go.Rd

namespace Go.Rd
open Go.RowKit
inductive CC where
  | skip
  | reg (draw : Option (Nat × List (List Nat))) (l : List GOp) (keep : List Nat)
  | seq (a b : CC)
  | cnd (x : X) (a b : CC)
  | blk (id : Nat) (b : CC)
  | loop (b : CC) (keep : List Nat)
  | exit (id : Nat)
  | ret
  | any (cl : List (List Nat)) (l : List GOp) (keep : List Nat)
  | mix (fl : List Nat) (cl : List (List Nat)) (l : List GOp) (keep : List Nat)
  | bad
  deriving Inhabited
def chkC (P : Program) (N : Nat) : Code → CC → Bool
  | .skip, .skip => true
  | .region _ ops false, .reg none l _ => chkGs P N ops ops.toList l
  | .region _ ops true, .reg (some (k, cl)) l _ => chkGs P N ops ops.toList l && drawOk P ops l k cl
  | .seq a b, .seq a' b' => chkC P N a a' && chkC P N b b'
  | .cond c a b, .cnd x a' b' => mx c x && chkC P N a a' && chkC P N b b'
  | .block id b, .blk id' b' => id == id' && chkC P N b b'
  | .loop b, .loop b' _ => chkC P N b b'
  | .exit i, .exit j => i == j
  | .ret, .ret => true
  | .region _ ops true, .any cl l _ => chkGs P N ops ops.toList l && clOk ops cl && P.follows .mixedOrders
  | .region _ ops true, .mix fl cl l _ => chkGs P N ops ops.toList l && clOk ops cl && P.follows .mixedOrders && incr fl l.length
  | _, .bad => true
  | _, _ => false
def clean (ks : List Nat) (s : Slot) : Slot := match s with
  | .al n | .ref n _ | .oel n _ _ | .gp n _ _ => if ks.contains n then s else .undef
  | s => s
def keepOnly (ks : List Nat) (E : Env) : Env := ks.map fun n => (n, clean ks (get E n))
inductive RX where
  | tmp (n : Nat)
  | cell (n : Nat)
  | cella (n : Nat)
def resV (E : Env) : RX → Option RV
  | .tmp n => match get E n with
    | .v d => some (.v d)
    | .agg ds => some (.agg ds)
    | .own e sz bys es => some (.own e sz bys es)
    | _ => none
  | .cell n => match get E n with
    | .box [d] => some (.v d)
    | _ => none
  | .cella n => match get E n with
    | .box ds => some (.agg ds)
    | _ => none
def RV.frz : RV → RV
  | .own _ sz _ es => .v (.sl sz es)
  | r => r
def resL (E : Env) : List RX → Option (List RV)
  | [] => some []
  | x :: xs => match resV E x, resL E xs with
    | some r, some rs => some (r.frz :: rs)
    | _, _ => none
def resOf (E : Env) : List RX → Option (List RV)
  | [x] => match resV E x with
    | some r => some [r]
    | none => none
  | xs => resL E xs
inductive It where
  | code (c : CC)
  | blk (id : Nat)
  | lp (b : CC) (keep : List Nat)
def exitIt (id : Nat) : List It → Option (List It)
  | .blk id' :: k => if id' = id then some k else exitIt id k
  | _ :: k => exitIt id k
  | [] => none
def drawEx (E : Env) (draw : Option (Nat × List (List Nat))) (l : List GOp) : Bool := match draw with
  | none => true
  | some (k, _) => (l.take k).all fun g => match g.dst with | some d => !(get E d).excl | none => true
inductive RunQ (P : Program) (Q : Env → Prop) : List It → Env → Prop
  | done {E : Env} : Q E → RunQ P Q [] E
  | ret {k : List It} {E : Env} : Q E → RunQ P Q (.code .ret :: k) E
  | skip {k : List It} {E : Env} : RunQ P Q k E → RunQ P Q (.code .skip :: k) E
  | seq {x y : CC} {k : List It} {E : Env} : RunQ P Q (.code x :: .code y :: k) E → RunQ P Q (.code (.seq x y) :: k) E
  | reg {l : List GOp} {keep : List Nat} {k : List It} {E : Env} {K : Env → Prop} : OpsK P K l E → (∀ E', K E' → RunQ P Q k (keepOnly keep E')) → RunQ P Q (.code (.reg none l keep) :: k) E
  | drw {q : Nat × List (List Nat)} {l : List GOp} {keep : List Nat} {k : List It} {E E1 : Env} {K : Env → Prop} : Ops P (l.take q.1) E E1 → OpsK P K (l.drop q.1) E1 → drawEx E (some q) l = true → (∀ E', K E' → RunQ P Q k (keepOnly keep E')) → RunQ P Q (.code (.reg (some q) l keep) :: k) E
  | any {cl : List (List Nat)} {l : List GOp} {keep : List Nat} {k : List It} {E E1 : Env} {tr : List TrE} : Tr P l E tr E1 → anyOk cl tr E1 = true → RunQ P Q k (keepOnly keep E1) → RunQ P Q (.code (.any cl l keep) :: k) E
  | mix {fl : List Nat} {cl : List (List Nat)} {l : List GOp} {keep : List Nat} {k : List It} {E EF : Env} {tr : List TrE} {K : Env → Prop} : Tr P (pickL l fl) E tr EF → flOk cl fl tr = true → tr.all (fun e => e.S.isEmpty) = true → SpK P cl fl tr E EF l K (spineL l.length fl) [] [] → (∀ E', K E' → RunQ P Q k (keepOnly keep E')) → RunQ P Q (.code (.mix fl cl l keep) :: k) E
  | cndU {x : X} {c1 c2 : CC} {pt pf : Prop} {k : List It} {E : Env} : vw E x = .ub pt pf → (pt → RunQ P Q (.code c1 :: k) E) → (pf → RunQ P Q (.code c2 :: k) E) → RunQ P Q (.code (.cnd x c1 c2) :: k) E
  | cnd {x : X} {c1 c2 : CC} {b : Bool} {k : List It} {E : Env} : vBool E x = some b → RunQ P Q (.code (if b then c1 else c2) :: k) E → RunQ P Q (.code (.cnd x c1 c2) :: k) E
  | blk {id : Nat} {c : CC} {k : List It} {E : Env} : RunQ P Q (.code c :: .blk id :: k) E → RunQ P Q (.code (.blk id c) :: k) E
  | pop {id : Nat} {k : List It} {E : Env} : RunQ P Q k E → RunQ P Q (.blk id :: k) E
  | loop {c : CC} {keep : List Nat} {k : List It} {E : Env} : RunQ P Q (.code c :: .lp c keep :: k) (keepOnly keep E) → RunQ P Q (.code (.loop c keep) :: k) E
  | back {c : CC} {keep : List Nat} {k : List It} {E : Env} : RunQ P Q (.code c :: .lp c keep :: k) (keepOnly keep E) → RunQ P Q (.lp c keep :: k) E
  | exit {id : Nat} {k k' : List It} {E : Env} : exitIt id k = some k' → RunQ P Q k' E → RunQ P Q (.code (.exit id) :: k) E
  | gh {k : List It} {E : Env} {E1 : Gh → Env} : Ghost E E1 → (∀ u, RunQ P Q k (E1 u)) → RunQ P Q k E
abbrev Run (P : Program) (res : List RX) (k : List It) (E : Env) (r : List RV) : Prop := RunQ P (fun E => resOf E res = some r) k E
def CI (P : Program) (N : Nat) : It → Item → Prop
  | .code c, .code C => chkC P N C c = true
  | .blk id, .inBlock id' => id = id'
  | .lp b _, .inLoop C => chkC P N C b = true
  | _, _ => False
theorem exitIt_ok {P : Program} {N id : Nat} : ∀ {k k' : List It} {K : List Item}, exitIt id k = some k' → All2 (CI P N) k K → ∃ K', exitTo id K = some K' ∧ All2 (CI P N) k' K'
  | [], _, _, h, _ => by simp [exitIt] at h
  | .code c :: k, k', [], _, h => h.elim
  | .code c :: k, k', .code C :: K, h, hc => by
    obtain ⟨K', h1, h2⟩ := exitIt_ok (k := k) (by simpa [exitIt] using h) hc.2
    exact ⟨K', by simpa [exitTo] using h1, h2⟩
  | .lp b kp :: k, k', .inLoop C :: K, h, hc => by
    obtain ⟨K', h1, h2⟩ := exitIt_ok (k := k) (by simpa [exitIt] using h) hc.2
    exact ⟨K', by simpa [exitTo] using h1, h2⟩
  | .blk id' :: k, k', .inBlock id2 :: K, h, hc => by
    have e : id' = id2 := hc.1
    subst e
    simp only [exitIt] at h
    split at h
    · rename_i e; subst e
      simp only [Option.some.injEq] at h; subst h
      exact ⟨K, by simp [exitTo], hc.2⟩
    · rename_i hne
      obtain ⟨K', h1, h2⟩ := exitIt_ok (k := k) h hc.2
      exact ⟨K', by simp [exitTo, hne, h1], h2⟩
  | .code c :: k, k', .inBlock _ :: K, _, h => h.1.elim
  | .code c :: k, k', .inLoop _ :: K, _, h => h.1.elim
  | .code c :: k, k', .inScope _ :: K, _, h => h.1.elim
  | .code c :: k, k', .inRegion _ _ :: K, _, h => h.1.elim
  | .code c :: k, k', .call _ _ _ _ :: K, _, h => h.1.elim
  | .code c :: k, k', .extern _ _ :: K, _, h => h.1.elim
  | .code c :: k, k', .inRangeFunc _ :: K, _, h => h.1.elim
  | .code c :: k, k', .beginRound :: K, _, h => h.1.elim
  | .code c :: k, k', .endRangeFunc _ :: K, _, h => h.1.elim
  | .lp b kp :: k, k', [], _, h => h.elim
  | .lp b kp :: k, k', .code _ :: K, _, h => h.1.elim
  | .lp b kp :: k, k', .inBlock _ :: K, _, h => h.1.elim
  | .lp b kp :: k, k', .inScope _ :: K, _, h => h.1.elim
  | .lp b kp :: k, k', .inRegion _ _ :: K, _, h => h.1.elim
  | .lp b kp :: k, k', .call _ _ _ _ :: K, _, h => h.1.elim
  | .lp b kp :: k, k', .extern _ _ :: K, _, h => h.1.elim
  | .lp b kp :: k, k', .inRangeFunc _ :: K, _, h => h.1.elim
  | .lp b kp :: k, k', .beginRound :: K, _, h => h.1.elim
  | .lp b kp :: k, k', .endRangeFunc _ :: K, _, h => h.1.elim
  | .blk _ :: k, k', [], _, h => h.elim
  | .blk _ :: k, k', .code _ :: K, _, h => h.1.elim
  | .blk _ :: k, k', .inLoop _ :: K, _, h => h.1.elim
  | .blk _ :: k, k', .inScope _ :: K, _, h => h.1.elim
  | .blk _ :: k, k', .inRegion _ _ :: K, _, h => h.1.elim
  | .blk _ :: k, k', .call _ _ _ _ :: K, _, h => h.1.elim
  | .blk _ :: k, k', .extern _ _ :: K, _, h => h.1.elim
  | .blk _ :: k, k', .inRangeFunc _ :: K, _, h => h.1.elim
  | .blk _ :: k, k', .beginRound :: K, _, h => h.1.elim
  | .blk _ :: k, k', .endRangeFunc _ :: K, _, h => h.1.elim
section
variable {P : Program} {ok : Nat → Prop} {N : Nat} {B : Bd} {w0 : World} {E : Env} {a : Act} {w : World}
theorem get_keep (ks : List Nat) (E : Env) (n : Nat) : get (keepOnly ks E) n = if n ∈ ks then clean ks (get E n) else .undef := by
  unfold keepOnly
  have : ∀ l : List Nat, get (l.map fun n => (n, clean ks (get E n))) n = if n ∈ l then clean ks (get E n) else .undef := by
    intro l
    induction l with
    | nil => simp [get]
    | cons m l ih =>
      simp only [List.map_cons, get, ih, List.mem_cons]
      by_cases h : m = n
      · simp [h]
      · simp [h, Ne.symm h]
  exact this ks
theorem InvO.keep (h : InvO ok N B w0 E a w) (ks : List Nat) : InvO ok N B w0 (keepOnly ks E) a w := by
  have hcl : ∀ s : Slot, clean ks s = s ∨ clean ks s = .undef := by
    intro s
    unfold clean
    cases s <;> first | exact .inl rfl | (dsimp only; split <;> first | exact .inl rfl | exact .inr rfl)
  refine h.weaken (fun n => ?_) (fun n m hn hm => ?_)
  · rw [get_keep]
    split
    · exact hcl _
    · exact .inr rfl
  · rw [get_keep] at hn
    split at hn
    case isFalse => rw [← hn] at hm; simp [Slot.points] at hm
    have hmk : m ∈ ks := by
      revert hn hm
      generalize get E n = s
      intro hm hn
      cases s
      case al k =>
        have e : k = m := by simpa [Slot.points] using hm
        subst e
        simp only [clean] at hn
        split at hn
        · rename_i hc; simpa using hc
        · simp at hn
      case ref k o =>
        have e : k = m := by simpa [Slot.points] using hm
        subst e
        simp only [clean] at hn
        split at hn
        · rename_i hc; simpa using hc
        · simp at hn
      case oel k i o =>
        have e : k = m := by simpa [Slot.points] using hm
        subst e
        simp only [clean] at hn
        split at hn
        · rename_i hc; simpa using hc
        · simp at hn
      case gp k i o =>
        have e : k = m := by simpa [Slot.points] using hm
        subst e
        simp only [clean] at hn
        split at hn
        · rename_i hc; simpa using hc
        · simp at hn
      all_goals simp [Slot.points] at hm
    rw [get_keep, if_pos hmk]
    have hx := points_excl hm (h.slot n)
    cases hg : get E m <;> simp_all [Slot.excl, clean]
theorem reg_none {C : Code} {l : List GOp} {keep : List Nat} {K : Env → Prop} (hI : InvO ok N B w0 E a w) (hc : chkC P N C (.reg none l keep) = true) (ho : OpsK P K l E) :
    C.wp P (fun e a' w' => e = .normal ∧ ∃ ok' E', K E' ∧ InvO ok' N B w0 E' a' w' ∧ ∀ b, ok' b → ok b ∨ B.n ≤ b) a w := by
  unfold chkC at hc
  split at hc
  case h_2 =>
    rename_i id ops l' k' heq
    simp only [CC.reg.injEq] at heq
    obtain ⟨_, rfl, rfl⟩ := heq
    apply wp_region
    rw [List.range_eq_range']
    exact ops_seq _ 0 ops.toList ho (by simp) hc hI (fun E2 ok' a' w' hk h hn => ⟨rfl, ok', E2, hk, h, hn⟩)
  all_goals first | contradiction | (exact (Bool.false_ne_true hc).elim) | (rename_i heq; simp at heq)
theorem reg_some {C : Code} {q : Nat × List (List Nat)} {l : List GOp} {keep : List Nat} {K : Env → Prop} (hI : InvO ok N B w0 E a w) (hc : chkC P N C (.reg (some q) l keep) = true)
    (ho : (∃ E1, Ops P (l.take q.1) E E1 ∧ OpsK P K (l.drop q.1) E1) ∧ drawEx E (some q) l = true) :
    C.wp P (fun e a' w' => e = .normal ∧ ∃ ok' E', K E' ∧ InvO ok' N B w0 E' a' w' ∧ ∀ b, ok' b → ok b ∨ B.n ≤ b) a w := by
  unfold chkC at hc
  split at hc
  case h_3 =>
    rename_i id ops k cl l' k' heq
    simp only [CC.reg.injEq] at heq
    obtain ⟨hq, rfl, rfl⟩ := heq; simp only [Option.some.injEq] at hq; subst hq
    simp only [Bool.and_eq_true] at hc
    obtain ⟨hgs, hd⟩ := hc
    have hd' := hd
    simp only [drawOk, Bool.and_eq_true, decide_eq_true_eq] at hd'
    obtain ⟨⟨⟨⟨⟨⟨hcl, hk⟩, hfl⟩, hnd⟩, hrd⟩, htl⟩, hmix⟩ := hd'
    obtain ⟨⟨E1, hof, hot⟩, hex⟩ := ho
    obtain ⟨ps, hflo, he⟩ := ops_split (gs2 := []) hfl (by simpa using hof)
    have htail : OpsK P K (l.drop k) (ps.reverse ++ E) := by cases he; exact hot
    obtain ⟨hpl, hpd⟩ := flo_len hflo
    have hexp : ∀ p ∈ ps, (get E p.1).excl = false := by
      intro p hp
      have : some p.1 ∈ (l.take k).map (·.dst) := by rw [← hpd]; exact List.mem_map.2 ⟨p, hp, rfl⟩
      obtain ⟨g, hg, e⟩ := List.mem_map.1 this
      have := List.all_eq_true.1 (by simpa only [drawEx] using hex) g hg
      rw [e] at this; simpa using this
    refine wp_region_any hmix ?_
    have hlen := (chkGs_get hgs).1
    refine draw_ok hd hgs hflo htail hexp (fun E2 ok' a' w' hk h hn => ⟨rfl, ok', E2, hk, h, hn⟩) ops.size ok _ a _ (by rw [cnt_none]; exact Nat.le_refl _) (by simp) (fun i _ => ?_) (fun i hi => ?_) ?_ (fun _ h => .inl h)
    · rw [Array.getD_eq_getD_getElem?, Array.getElem?_replicate]; split <;> rfl
    · rw [Array.getD_eq_getD_getElem?, Array.getElem?_replicate] at hi; split at hi <;> simp at hi
    · have hX : ∀ i, (Array.replicate ops.size false).getD i false = false := fun i => by rw [Array.getD_eq_getD_getElem?, Array.getElem?_replicate]; split <;> rfl
      have hI2 : InvO ok N B w0 E a { w with drawn := w.drawn + 1 } := hI.grow ((Below.refl _ w).drew) ⟨fun _ h => h, fun _ h => .inl h, hI.okLt⟩
      rw [fx_none hX]
      exact hI2
  all_goals first | contradiction | (exact (Bool.false_ne_true hc).elim) | (rename_i heq; simp at heq)
theorem reg_any {C : Code} {cl : List (List Nat)} {l : List GOp} {keep : List Nat} {tr : List TrE} {E1 : Env} (hI : InvO ok N B w0 E a w) (hc : chkC P N C (.any cl l keep) = true) (htr : Tr P l E tr E1) (hok : anyOk cl tr E1 = true) :
    C.wp P (fun e a' w' => e = .normal ∧ ∃ ok', InvO ok' N B w0 E1 a' w' ∧ ∀ b, ok' b → ok b ∨ B.n ≤ b) a w := by
  cases C <;> try (simp [chkC] at hc; done)
  rename_i id ops dr
  cases dr <;> simp only [chkC, Bool.and_eq_true] at hc
  · simp at hc
  obtain ⟨⟨hgs, hcl⟩, hmix⟩ := hc
  refine wp_region_any hmix ?_
  have hlen := (chkGs_get hgs).1
  refine any_ok hcl hgs htr hok (fun ok' a' w' h hn => ⟨rfl, ok', h, hn⟩) ops.size ok _ a _ (by rw [cnt_none]; exact Nat.le_refl _) (by simp) (fun i hi => ?_) ?_ (fun _ h => .inl h)
  · rw [Array.getD_eq_getD_getElem?, Array.getElem?_replicate] at hi; split at hi <;> simp at hi
  · have hX : ∀ i, (Array.replicate ops.size false).getD i false = false := fun i => by rw [Array.getD_eq_getD_getElem?, Array.getElem?_replicate]; split <;> rfl
    have hI2 : InvO ok N B w0 E a { w with drawn := w.drawn + 1 } := hI.grow ((Below.refl _ w).drew) ⟨fun _ h => h, fun _ h => .inl h, hI.okLt⟩
    have hnone : ∀ (tr : List TrE) (i : Nat) (E : Env), wx (fun i => (Array.replicate ops.size false).getD i false) tr i E = E := by
      intro tr
      induction tr with
      | nil => intro i E; rfl
      | cons e tr ih => intro i E; simp only [wx]; rw [if_neg (by rw [hX]; simp)]; exact ih _ _
    rw [hnone]
    exact hI2
theorem reg_mix {C : Code} {fl : List Nat} {cl : List (List Nat)} {l : List GOp} {keep : List Nat} {tr : List TrE} {EF : Env} {K : Env → Prop} (hI : InvO ok N B w0 E a w) (hc : chkC P N C (.mix fl cl l keep) = true) (htr : Tr P (pickL l fl) E tr EF) (hfl : flOk cl fl tr = true) (hS0 : tr.all (fun e => e.S.isEmpty) = true) (hsp : SpK P cl fl tr E EF l K (spineL l.length fl) [] []) :
    C.wp P (fun e a' w' => e = .normal ∧ ∃ ok' E', K E' ∧ InvO ok' N B w0 E' a' w' ∧ ∀ b, ok' b → ok b ∨ B.n ≤ b) a w := by
  cases C <;> try (simp [chkC] at hc; done)
  rename_i id ops dr
  cases dr <;> simp only [chkC, Bool.and_eq_true] at hc
  · simp at hc
  obtain ⟨⟨⟨hgs, hcl⟩, hmix⟩, hinc⟩ := hc
  refine wp_region_any hmix ?_
  have hlen := (chkGs_get hgs).1
  have hsz : ops.size = l.length := by simpa using hlen
  have hX : ∀ i, (Array.replicate ops.size false).getD i false = false := fun i => by rw [Array.getD_eq_getD_getElem?, Array.getElem?_replicate]; split <;> rfl
  refine mix_ok hcl hgs hinc htr hfl hS0 (fun E' ok' a' w' hK h hn => ⟨rfl, ok', E', hK, h, hn⟩) ops.size ok _ (spineL l.length fl) [] [] a _ (by rw [cnt_none]; exact Nat.le_refl _) (by simp) (fun i hi => by rw [hX] at hi; simp at hi) hsp (fun i _ _ => by rw [hX]; simp) (fun i hi hif _ => ?_) (fun i hi => ?_) ?_ (fun n hn => by simp at hn) ?_ (fun _ h => .inl h)
  · simp only [spineL, List.mem_filter, List.mem_range]
    exact ⟨by omega, by simpa using hif⟩
  · simp only [spineL, List.mem_filter, List.mem_range] at hi
    exact ⟨by omega, by simpa using hi.2, hX i⟩
  · exact List.nodup_range.filter _
  · have hI2 : InvO ok N B w0 E a { w with drawn := w.drawn + 1 } := hI.grow ((Below.refl _ w).drew) ⟨fun _ h => h, fun _ h => .inl h, hI.okLt⟩
    have hnone : ∀ (tr : List TrE) (i : Nat) (E : Env), wx (fun k => (Array.replicate ops.size false).getD (fl.getD k 0) false) tr i E = E := by
      intro tr
      induction tr with
      | nil => intro i E; rfl
      | cons e tr ih => intro i E; simp only [wx]; rw [if_neg (by rw [hX]; simp)]; exact ih _ _
    rw [hnone]
    exact hI2
end
end Go.Rd

namespace Go.Rd
open Go.RowKit
def chkX (P : Program) : ResultVar → RX → Bool
  | .tmp t, .tmp n => t == n
  | .cell t ty, .cell n => t == n && scalT P ty
  | .cell t ty, .cella n => t == n && isAggT P ty
  | _, _ => false
def sizeX (P : Program) : ResultVar → RV → Bool
  | .cell _ ty, .agg ds => szT P ty == some ds.length
  | _, _ => true
def chkXs (P : Program) : List ResultVar → List RX → Bool
  | [], [] => true
  | r :: rs, x :: xs => chkX P r x && chkXs P rs xs
  | _, _ => false
def sizeXs (P : Program) : List ResultVar → List RV → Bool
  | [], [] => true
  | r :: rs, x :: xs => sizeX P r x && sizeXs P rs xs
  | _, _ => false
section
variable {P : Program} {ok : Nat → Prop} {N : Nat} {B : Bd} {w0 : World} {E : Env} {a : Act} {w : World}
def rvGet (P : Program) (a : Act) (r : ResultVar) : Sem Value := match r with
  | .tmp t => pure (a.tmps.getD t undef)
  | .cell p t => do loadVar t (← asAddr (a.tmps.getD p undef))
theorem resV_ok (h : InvO ok N B w0 E a w) {r : ResultVar} {x : RX} {rv : RV} (hc : chkX P r x = true) (hv : resV E x = some rv) (hs : sizeX P r rv = true) : ∃ v, (rvGet P a r).run P w = .ok v w ∧ RVOK B.n ok w rv v ∧ ∀ e sz bys es, rv = .own e sz bys es → ∀ b, ownBlk v = some b → held E a b := by
  unfold chkX at hc
  split at hc
  · rename_i t n
    have e : t = n := by simpa using hc
    subst e
    have hsl := h.slot t
    simp only [resV] at hv
    refine ⟨tm a t, by simp [rvGet, tm], ?_⟩
    split at hv
    · rename_i d hg; simp only [Option.some.injEq] at hv; subst hv; rw [hg] at hsl; exact ⟨hsl, by simp⟩
    · rename_i ds hg; simp only [Option.some.injEq] at hv; subst hv; rw [hg] at hsl; exact ⟨hsl, by simp⟩
    · rename_i e sz bys es hg; simp only [Option.some.injEq] at hv; subst hv; rw [hg] at hsl; exact ⟨hsl, fun _ _ _ _ _ b hb => ⟨t, by rw [hg]; simpa [blkP] using hb⟩⟩
    · simp at hv
  · rename_i t ty n
    simp only [Bool.and_eq_true, beq_iff_eq] at hc
    obtain ⟨rfl, hsc⟩ := hc
    simp only [resV] at hv
    split at hv
    case h_2 => simp at hv
    rename_i d hg
    simp only [Option.some.injEq] at hv; subst hv
    obtain ⟨b, cs, et, h1, _, _, hh, hall⟩ := box_of h hg
    obtain ⟨v, hv1, hv2⟩ := hall.get _ _ 0 d (by simp)
    refine ⟨v, ?_, hv2, by simp⟩
    have hcell : w.cell? ⟨b, 0, none⟩ = some v := by rw [cell_off hh]; simpa using hv1
    have h1' : a.tmps.getD t undef = .pointer (some ⟨b, 0, none⟩) := h1
    simp only [rvGet, h1', asAddr, Sem.run_bind, Sem.run_pure, Result.andThen_ok]
    exact run_lds hsc hcell
  · rename_i t ty n
    simp only [Bool.and_eq_true, beq_iff_eq] at hc
    obtain ⟨rfl, hag⟩ := hc
    simp only [resV] at hv
    split at hv
    case h_2 => simp at hv
    rename_i ds hg
    simp only [Option.some.injEq] at hv; subst hv
    obtain ⟨b, cs, et, h1, _, _, hh, hall⟩ := box_of h hg
    have hsz : szT P ty = some ds.length := by simpa [sizeX] using hs
    have hl := hall.length
    refine ⟨.agg cs, ?_, ⟨cs, rfl, hall⟩, by simp⟩
    have h1' : a.tmps.getD t undef = .pointer (some ⟨b, 0, none⟩) := h1
    simp only [rvGet, h1', asAddr, Sem.run_bind, Sem.run_pure, Result.andThen_ok]
    have := run_lda (P := P) (w := w) (t := ty) (b := b) (o := 0) (vs := cs.toList) hag (by rw [hsz, hl]) (fun j v hj => by rw [Nat.zero_add, cell_off hh]; simpa using hj)
    simpa using this
  · exact (Bool.false_ne_true hc).elim
theorem rvok_more {B0 : Nat} {ok' : Nat → Prop} {rv : RV} {v : Value} (h1 : ∀ b, ok b → ok' b) (h2 : ∀ b, B0 ≤ b → ok' b → ok b) (h : RVOK B0 ok w rv v) : RVOK B0 ok' w rv v := by
  have hk : Keeps ok ok' w w := fun b hb => ⟨h1 b hb, fun _ => rfl⟩
  cases rv with
  | v d => exact Rep.mono hk d v h
  | agg ds => exact AggRep.mono hk h
  | own e sz bys es => exact OwnRep.keep h hk (fun _ _ => rfl) (fun b hb hok => h.2.choose_spec.2.2 b hb (h2 b (ownBlk_lt h.2.choose_spec.1 hb).1 hok))
theorem resL_ok (h : InvO ok N B w0 E a w) : ∀ {rs : List ResultVar} {xs : List RX} {rvs : List RV}, chkXs P rs xs = true → resL E xs = some rvs → sizeXs P rs rvs = true →
    ∃ vs : List Value, (rs.mapM (rvGet P a)).run P w = .ok vs w ∧ All2 (RVOK B.n (fun b => ok b ∨ held E a b) w) rvs vs
  | [], [], rvs, _, hv, _ => by simp [resL] at hv; subst hv; exact ⟨[], by simp, trivial⟩
  | [], _ :: _, _, hc, _, _ => by simp [chkXs] at hc
  | _ :: _, [], _, hc, _, _ => by simp [chkXs] at hc
  | r :: rs, x :: xs, rvs, hc, hv, hs => by
    simp only [chkXs, Bool.and_eq_true] at hc
    simp only [resL] at hv
    split at hv
    case h_2 => simp at hv
    rename_i rv rvs' h1 h2
    simp only [Option.some.injEq] at hv; subst hv
    simp only [sizeXs, Bool.and_eq_true] at hs
    have hs1 : sizeX P r rv = true := by
      cases rv with
      | own => cases r <;> rfl
      | _ => exact hs.1
    obtain ⟨v, h3, h4, hheld⟩ := resV_ok h hc.1 h1 hs1
    obtain ⟨vs, h5, h6⟩ := resL_ok h hc.2 h2 hs.2
    refine ⟨v :: vs, by simp [List.mapM_cons, h3, h5], ?_, h6⟩
    have hk : Keeps ok (fun b => ok b ∨ held E a b) w w := fun b hb => ⟨.inl hb, fun _ => rfl⟩
    cases rv with
    | v d => exact Rep.mono hk d v h4
    | agg ds => exact AggRep.mono hk h4
    | own e sz bys es =>
      exact own_rep h4 (fun b hb => .inl hb) (fun b hb => .inr (hheld e sz bys es rfl b hb))
theorem resL_len : ∀ {xs : List RX} {rs : List RV}, resL E xs = some rs → rs.length = xs.length
  | [], rs, h => by simp [resL] at h; subst h; rfl
  | x :: xs, rs, h => by
    simp only [resL] at h
    split at h
    case h_2 => simp at h
    rename_i h1 h2
    simp only [Option.some.injEq] at h; subst h
    simp [resL_len h2]
theorem results_run {fn : Func} {vs : List Value} (h : (fn.results.toList.mapM (rvGet P a)).run P w = .ok vs w) :
    (results fn a.tmps).run P w = .ok (match vs with | [v] => v | vs => .tuple vs.toArray) w := by
  have hm : (fn.results.mapM (rvGet P a)).run P w = .ok vs.toArray w := by
    rw [Array.mapM_eq_mapM_toList]
    simp [h]
  have e : (fun r : ResultVar => match r with | .tmp t => (pure (a.tmps.getD t undef) : Sem Value) | .cell p t => do loadVar t (← asAddr (a.tmps.getD p undef))) = rvGet P a := by
    funext r; cases r <;> rfl
  unfold results
  have hm' := hm
  rw [← e] at hm'
  rw [Sem.run_bind]
  erw [hm']
  simp only [Result.andThen_ok, Sem.run_pure]
  match vs with
  | [] => rfl
  | [v] => rfl
  | v :: v' :: vs => simp
theorem run_ok {QE : Env → Prop} {k : List It} {b : Frame} {cs : List Frame} (hrun : RunQ P QE k E) : ∀ {ok : Nat → Prop} {a : Act} {w : World} {K : List Item}, InvO ok N B w0 E a w → All2 (CI P N) k K →
    ∃ E' ok' a' w' todo, InvO ok' N B w0 E' a' w' ∧ (∀ b, ok' b → ok b ∨ B.n ≤ b) ∧ QE E' ∧ Steps P (lone (b.at a K) cs w) (lone { b.at a' todo with mode := .returning } cs w') := by
  induction hrun with
  | @done E h =>
    intro ok a w K hI hK
    cases K with
    | nil => exact ⟨E, ok, a, w, [], hI, fun _ h => .inl h, h, .one step_end⟩
    | cons => exact hK.elim
  | @ret k E h =>
    intro ok a w K hI hK
    cases K with
    | nil => exact hK.elim
    | cons i K =>
      cases i <;> try exact hK.1.elim
      rename_i C
      have hc : chkC P N C .ret = true := hK.1
      unfold chkC at hc
      split at hc <;> first | contradiction | skip
      all_goals first | (exact (Bool.false_ne_true hc).elim) | exact ⟨E, ok, a, w, _, hI, fun _ h => .inl h, h, .one step_ret⟩
  | @skip k E _ ih =>
    intro ok a w K hI hK
    cases K with
    | nil => exact hK.elim
    | cons i K =>
      cases i <;> try exact hK.1.elim
      rename_i C
      have hc : chkC P N C .skip = true := hK.1
      unfold chkC at hc
      split at hc <;> first | contradiction | skip
      all_goals first
        | (exact (Bool.false_ne_true hc).elim)
        | (obtain ⟨E', ok', a', w', todo, h1, h2, h3, h4⟩ := ih hI hK.2
           exact ⟨E', ok', a', w', todo, h1, h2, h3, .head step_skip h4⟩)
  | @seq x y k E _ ih =>
    intro ok a w K hI hK
    cases K with
    | nil => exact hK.elim
    | cons i K =>
      cases i <;> try exact hK.1.elim
      rename_i C
      have hc : chkC P N C (.seq x y) = true := hK.1
      cases C <;> try (simp [chkC] at hc; done)
      rename_i c1 c2
      simp only [chkC, Bool.and_eq_true] at hc
      obtain ⟨E', ok', a', w', todo, h1, h2, h3, h4⟩ := ih hI (K := .code c1 :: .code c2 :: K) ⟨hc.1, hc.2, hK.2⟩
      exact ⟨E', ok', a', w', todo, h1, h2, h3, .head step_seq h4⟩
  | @reg l keep k E KE ho _ ih =>
    intro ok a w K hI hK
    cases K with
    | nil => exact hK.elim
    | cons i K =>
      cases i <;> try exact hK.1.elim
      rename_i C
      obtain ⟨e, a1, w1, hq, harr⟩ := reg_none hI hK.1 ho b K cs
      obtain ⟨rfl, ok1, E1, hKE, hI1, hn1⟩ := hq
      obtain ⟨E', ok', a', w', todo, h1, h2, h3, h4⟩ := ih E1 hKE (hI1.keep keep) hK.2
      refine ⟨E', ok', a', w', todo, h1, fun b hb => ?_, h3, Steps.trans harr h4⟩
      rcases h2 b hb with h | h
      · exact hn1 b h
      · exact .inr h
  | @drw q l keep k E E0 KE ho1 ho2 hex _ ih =>
    intro ok a w K hI hK
    cases K with
    | nil => exact hK.elim
    | cons i K =>
      cases i <;> try exact hK.1.elim
      rename_i C
      obtain ⟨e, a1, w1, hq, harr⟩ := reg_some hI hK.1 ⟨⟨E0, ho1, ho2⟩, hex⟩ b K cs
      obtain ⟨rfl, ok1, E1, hKE, hI1, hn1⟩ := hq
      obtain ⟨E', ok', a', w', todo, h1, h2, h3, h4⟩ := ih E1 hKE (hI1.keep keep) hK.2
      refine ⟨E', ok', a', w', todo, h1, fun b hb => ?_, h3, Steps.trans harr h4⟩
      rcases h2 b hb with h | h
      · exact hn1 b h
      · exact .inr h
  | @gh k E E1 hg _ ih =>
    intro ok a w K hI hK
    obtain ⟨u, ok1, hI1, hn1⟩ := hg _ _ _ _ _ _ hI
    obtain ⟨E', ok', a', w', todo, h1, h2, h3, h4⟩ := ih u hI1 hK
    refine ⟨E', ok', a', w', todo, h1, fun b hb => ?_, h3, h4⟩
    rcases h2 b hb with h | h
    · exact hn1 b h
    · exact .inr h
  | @any cl l keep k E E0 tr htr hok _ ih =>
    intro ok a w K hI hK
    cases K with
    | nil => exact hK.elim
    | cons i K =>
      cases i <;> try exact hK.1.elim
      rename_i C
      obtain ⟨e, a1, w1, hq, harr⟩ := reg_any hI hK.1 htr hok b K cs
      obtain ⟨rfl, ok1, hI1, hn1⟩ := hq
      obtain ⟨E', ok', a', w', todo, h1, h2, h3, h4⟩ := ih (hI1.keep keep) hK.2
      refine ⟨E', ok', a', w', todo, h1, fun b hb => ?_, h3, Steps.trans harr h4⟩
      rcases h2 b hb with h | h
      · exact hn1 b h
      · exact .inr h
  | @mix fl cl l keep k E EF tr KE htr hfl hS0 hsp _ ih =>
    intro ok a w K hI hK
    cases K with
    | nil => exact hK.elim
    | cons i K =>
      cases i <;> try exact hK.1.elim
      rename_i C
      obtain ⟨e, a1, w1, hq, harr⟩ := reg_mix hI hK.1 htr hfl hS0 hsp b K cs
      obtain ⟨rfl, ok1, E1, hKE, hI1, hn1⟩ := hq
      obtain ⟨E', ok', a', w', todo, h1, h2, h3, h4⟩ := ih E1 hKE (hI1.keep keep) hK.2
      refine ⟨E', ok', a', w', todo, h1, fun b hb => ?_, h3, Steps.trans harr h4⟩
      rcases h2 b hb with h | h
      · exact hn1 b h
      · exact .inr h
  | @cndU x c1 c2 pt pf k E hv _ _ ih1 ih2 =>
    intro ok a w K hI hK
    cases K with
    | nil => exact hK.elim
    | cons i K =>
      cases i <;> try exact hK.1.elim
      rename_i C
      have hc : chkC P N C (.cnd x c1 c2) = true := hK.1
      cases C <;> try (simp [chkC] at hc; done)
      rename_i y d1 d2
      simp only [chkC, Bool.and_eq_true] at hc
      have he := mx_ok hI hc.1.1
      rw [hv] at he
      obtain ⟨bb, he, hpt, hpf⟩ := he
      cases bb with
      | true =>
        obtain ⟨E', ok', a', w', todo, h1, h2, h3, h4⟩ := ih1 (hpt rfl) hI (K := .code d1 :: K) ⟨hc.1.2, hK.2⟩
        exact ⟨E', ok', a', w', todo, h1, h2, h3, .head (step_cond he) h4⟩
      | false =>
        obtain ⟨E', ok', a', w', todo, h1, h2, h3, h4⟩ := ih2 (hpf rfl) hI (K := .code d2 :: K) ⟨hc.2, hK.2⟩
        exact ⟨E', ok', a', w', todo, h1, h2, h3, .head (step_cond he) h4⟩
  | @cnd x c1 c2 bb k E hv _ ih =>
    intro ok a w K hI hK
    cases K with
    | nil => exact hK.elim
    | cons i K =>
      cases i <;> try exact hK.1.elim
      rename_i C
      have hc : chkC P N C (.cnd x c1 c2) = true := hK.1
      cases C <;> try (simp [chkC] at hc; done)
      rename_i y d1 d2
      simp only [chkC, Bool.and_eq_true] at hc
      have he := vBool_ok hI hc.1.1 hv
      obtain ⟨E', ok', a', w', todo, h1, h2, h3, h4⟩ := ih hI (K := .code (if bb then d1 else d2) :: K) ⟨by cases bb <;> first | exact hc.1.2 | exact hc.2, hK.2⟩
      exact ⟨E', ok', a', w', todo, h1, h2, h3, .head (step_cond he) h4⟩
  | @blk id c k E _ ih =>
    intro ok a w K hI hK
    cases K with
    | nil => exact hK.elim
    | cons i K =>
      cases i <;> try exact hK.1.elim
      rename_i C
      have hc : chkC P N C (.blk id c) = true := hK.1
      cases C <;> try (simp [chkC] at hc; done)
      rename_i id' c1
      simp only [chkC, Bool.and_eq_true, beq_iff_eq] at hc
      obtain ⟨E', ok', a', w', todo, h1, h2, h3, h4⟩ := ih hI (K := .code c1 :: .inBlock id' :: K) ⟨hc.2, hc.1.symm, hK.2⟩
      exact ⟨E', ok', a', w', todo, h1, h2, h3, .head step_block h4⟩
  | @pop id k E _ ih =>
    intro ok a w K hI hK
    cases K with
    | nil => exact hK.elim
    | cons i K =>
      cases i <;> try exact hK.1.elim
      obtain ⟨E', ok', a', w', todo, h1, h2, h3, h4⟩ := ih hI hK.2
      exact ⟨E', ok', a', w', todo, h1, h2, h3, .head step_inBlock h4⟩
  | @loop c keep k E _ ih =>
    intro ok a w K hI hK
    cases K with
    | nil => exact hK.elim
    | cons i K =>
      cases i <;> try exact hK.1.elim
      rename_i C
      have hc : chkC P N C (.loop c keep) = true := hK.1
      cases C <;> try (simp [chkC] at hc; done)
      rename_i c1
      simp only [chkC] at hc
      obtain ⟨E', ok', a', w', todo, h1, h2, h3, h4⟩ := ih (hI.keep keep) (K := .code c1 :: .inLoop c1 :: K) ⟨hc, hc, hK.2⟩
      exact ⟨E', ok', a', w', todo, h1, h2, h3, .head step_loop h4⟩
  | @back c keep k E _ ih =>
    intro ok a w K hI hK
    cases K with
    | nil => exact hK.elim
    | cons i K =>
      cases i <;> try exact hK.1.elim
      rename_i C
      have hc : chkC P N C c = true := hK.1
      obtain ⟨E', ok', a', w', todo, h1, h2, h3, h4⟩ := ih (hI.keep keep) (K := .code C :: .inLoop C :: K) ⟨hc, hc, hK.2⟩
      exact ⟨E', ok', a', w', todo, h1, h2, h3, .head step_inLoop h4⟩
  | @exit id k k' E hx _ ih =>
    intro ok a w K hI hK
    cases K with
    | nil => exact hK.elim
    | cons i K =>
      cases i <;> try exact hK.1.elim
      rename_i C
      have hc : chkC P N C (.exit id) = true := hK.1
      cases C <;> try (simp [chkC] at hc; done)
      rename_i id'
      have e : id' = id := by simpa [chkC] using hc
      subst e
      obtain ⟨K', hk1, hk2⟩ := exitIt_ok hx hK.2
      obtain ⟨E', ok', a', w', todo, h1, h2, h3, h4⟩ := ih hI hk2
      exact ⟨E', ok', a', w', todo, h1, h2, h3, .head (step_exit hk1) h4⟩
def argSlot : AV → Slot
  | .v d => .v d
  | .agg ds => .agg ds
  | .row ds => .row ds
  | .clo f caps => .clo f caps
def argEnv : List AV → Nat → Env
  | [], _ => []
  | v :: vs, i => (i, argSlot v) :: argEnv vs (i + 1)
theorem argEnv_get : ∀ (vs : List AV) (i n : Nat), get (argEnv vs i) n = if i ≤ n then (match vs[n - i]? with | some v => argSlot v | none => .undef) else .undef
  | [], i, n => by simp [argEnv, get]
  | v :: vs, i, n => by
    simp only [argEnv, get]
    by_cases h : i = n
    · subst h; simp
    · rw [if_neg h, argEnv_get vs (i + 1) n]
      by_cases h2 : i ≤ n
      · rw [if_pos h2, if_pos (by omega), show n - i = (n - (i + 1)) + 1 by omega]; simp
      · rw [if_neg h2, if_neg (by omega)]
theorem entry_ok {ok : Nat → Prop} {args : List AV} {vs : Array Value} (hlt : ∀ b, ok b → b < w.heap.size) (ha : All2 (ArgOK ok w) args vs.toList) (hN : args.length ≤ N) :
    InvO ok N ⟨w.heap.size, fun _ => False⟩ w (argEnv args 0) { tmps := vs ++ Array.replicate (N - vs.size) undef, defers := [] } w := by
  have hl := ha.length
  have hvs : vs.size = args.length := by simpa using hl.symm
  have hsl : ∀ n, (get (argEnv args 0) n = .undef) ∨ ∃ v u, args[n]? = some v ∧ vs[n]? = some u ∧ get (argEnv args 0) n = argSlot v ∧ ArgOK ok w v u := by
    intro n
    rw [argEnv_get]
    cases hv : args[n]? with
    | none => left; simp [hv]
    | some v =>
      right
      obtain ⟨u, hu, hr⟩ := ha.get _ _ n v hv
      exact ⟨v, u, rfl, by simpa using hu, by simp [hv], hr⟩
  refine ⟨by simp; omega, rfl, BelowL.refl _ _, Nat.le_refl _, hlt, fun n => ?_, fun n m b h1 _ => ?_⟩
  · rcases hsl n with h | ⟨v, u, h1, h2, h3, h4⟩
    · rw [h]; trivial
    · have hn : n < vs.size := (Array.getElem?_eq_some_iff.1 h2).1
      have htm : tm { tmps := vs ++ Array.replicate (N - vs.size) undef, defers := [] } n = u := by
        simp only [tm]
        rw [Array.getD_eq_getD_getElem?, Array.getElem?_append_left hn, h2]; rfl
      rw [htm, h3]
      cases v with
      | v d => exact h4
      | agg ds => exact h4
      | row ds => exact h4
      | clo f caps => exact h4
  · exfalso
    rcases hsl n with h | ⟨v, u, _, _, h3, _⟩
    · rw [h] at h1; simp [blkP] at h1
    · rw [h3] at h1; cases v <;> simp [argSlot, blkP] at h1
theorem callsOK_of_run {f : FuncId} {fn : Func} {C : Code} {c : CC} {args : List AV} {res : List RX} {r : List RV} (hf : P.funcs[f]? = some fn) (hb : fn.body = some C) (hc : chkC P fn.ntmps C c = true)
    (hr : chkXs P fn.results.toList res = true) (hs : sizeXs P fn.results.toList r = true) (hn : args.length ≤ fn.ntmps) (hrun : Run P res [.code c] (argEnv args 0) r) : CallsOK P f args r := by
  intro ok w vs hlt ha cs
  have hI := entry_ok (N := fn.ntmps) hlt ha hn
  let b : Frame := { (default : Frame) with fn := f, kind := .normal }
  have henter : Frame.enter P f vs .normal = b.at { tmps := vs ++ Array.replicate (fn.ntmps - vs.size) undef, defers := [] } [.code C] := by
    simp [Frame.enter, Frame.at, hf, hb, b]
  obtain ⟨E', ok', a', w', todo, h1, h2, h3, h4⟩ := run_ok (b := b) (cs := cs) hrun hI (K := [.code C]) ⟨hc, trivial⟩
  rw [← henter] at h4
  have hfin : ∃ v ok2, (results fn a'.tmps).run P w' = .ok v w' ∧ ResOK w.heap.size ok2 w' r v ∧ (∀ b, ok2 b → b < w'.heap.size) ∧ (∀ b, ok2 b → ok b ∨ w.heap.size ≤ b) := by
    match res, hr, h3 with
    | [x], hr, h3 =>
      simp only [resOf] at h3
      split at h3
      case h_2 => simp at h3
      rename_i rv hrv
      simp only [Option.some.injEq] at h3; subst h3
      have hlist : ∃ rr, fn.results.toList = [rr] := by
        match hfr : fn.results.toList with
        | [rr] => exact ⟨rr, rfl⟩
        | [] => rw [hfr] at hr; simp [chkXs] at hr
        | r1 :: r2 :: rs => rw [hfr] at hr; simp [chkXs] at hr
      obtain ⟨rr, hrr⟩ := hlist
      rw [hrr] at hr hs
      simp only [chkXs, sizeXs, Bool.and_true] at hr hs
      obtain ⟨v, hv1, hv2, _⟩ := resV_ok h1 hr hrv hs
      refine ⟨v, ok', ?_, hv2, h1.okLt, h2⟩
      have := results_run (P := P) (a := a') (w := w') (fn := fn) (vs := [v]) (by rw [hrr]; simp [List.mapM_cons, hv1])
      simpa using this
    | [], hr, h3 =>
      simp only [resOf] at h3
      obtain ⟨vs', hm, hall⟩ := resL_ok h1 hr h3 hs
      have hrl : r = [] := by simp [resL] at h3; exact h3
      subst hrl
      cases vs' with
      | cons => exact hall.elim
      | nil =>
        have := results_run (P := P) (a := a') (w := w') (fn := fn) hm
        exact ⟨_, ok', this, ⟨#[], rfl, trivial⟩, h1.okLt, h2⟩
    | x1 :: x2 :: xs, hr, h3 =>
      simp only [resOf] at h3
      obtain ⟨vs', hm, hall⟩ := resL_ok h1 hr h3 hs
      have hrun := results_run (P := P) (a := a') (w := w') (fn := fn) hm
      refine ⟨_, fun b => ok' b ∨ held E' a' b, hrun, ?_, fun b hb => ?_, fun b hb => ?_⟩
      · have hrl : ∃ r1 r2 rs, r = r1 :: r2 :: rs := by
          have hl := resL_len h3
          match r, hl with
          | r1 :: r2 :: rs, _ => exact ⟨r1, r2, rs, rfl⟩
          | [], hl => simp at hl
          | [r1], hl => simp at hl
        obtain ⟨r1, r2, rs, rfl⟩ := hrl
        match vs', hall with
        | v1 :: v2 :: vs'', hall => exact ⟨(v1 :: v2 :: vs'').toArray, rfl, by simpa using hall⟩
      · rcases hb with hb | ⟨n, hb⟩
        · exact h1.okLt b hb
        · exact (blk_lt h1 hb).2.1
      · rcases hb with hb | ⟨n, hb⟩
        · exact h2 b hb
        · exact .inr ((blk_lt h1 hb).1.elim id (fun h => h.elim))
  obtain ⟨v, ok2, hv, hres, hlt2, hnew2⟩ := hfin
  refine ⟨.returned v, w', _, ⟨v, fun b => ok b ∨ ok2 b, rfl, ⟨h1.below.os, h1.below.tape, h1.below.output, h1.below.size, fun k hk => h1.below.block k hk id⟩, fun b hb => ?_, fun b hb => .inl hb, fun b hb => ?_, ?_⟩, h4, rfl, rfl, h1.defers, rfl, fn, hf, hv⟩
  · rcases hb with hb | hb
    · exact Nat.lt_of_lt_of_le (hlt b hb) h1.below.size
    · exact hlt2 b hb
  · rcases hb with hb | hb
    · exact .inl hb
    · exact hnew2 b hb
  · have hm : ∀ (rv : RV) (v : Value), RVOK w.heap.size ok2 w' rv v → RVOK w.heap.size (fun b => ok b ∨ ok2 b) w' rv v := fun rv v hh =>
      rvok_more (fun b hb => .inr hb) (fun b hB hb => hb.elim (fun hb => absurd (hlt b hb) (Nat.not_lt.2 hB)) id) hh
    match r, hres with
    | [], ⟨us, e, hall⟩ => exact ⟨us, e, hall.mono hm⟩
    | [rv], hh => exact hm rv v hh
    | r1 :: r2 :: rs, ⟨us, e, hall⟩ => exact ⟨us, e, hall.mono hm⟩
end
end Go.Rd

namespace Go.Rd
open Go.RowKit
def chkF (P : Program) (fn : Func) (c : CC) (rx : List RX) : Bool := match fn.body with
  | some C => chkC P fn.ntmps C c && chkXs P fn.results.toList rx
  | none => false
theorem callsOK {P : Program} {f : FuncId} {fn : Func} {c : CC} {args : List AV} {rx : List RX} {r : List RV} (hf : P.funcs[f]? = some fn) (hc : chkF P fn c rx = true)
    (hs : sizeXs P fn.results.toList r = true) (hn : args.length ≤ fn.ntmps) (hrun : Run P rx [.code c] (argEnv args 0) r) : CallsOK P f args r := by
  unfold chkF at hc
  split at hc
  · rename_i C hb
    simp only [Bool.and_eq_true] at hc
    exact callsOK_of_run hf hb hc.1 hc.2 hs hn hrun
  · exact (Bool.false_ne_true hc).elim
end Go.Rd

namespace Go.Rd
open Go.RowKit
def Mid (nf : Nat) (P : Program) (Q : Env → Prop) (l : List GOp) (keep : List Nat) (k : List It) (E : Env) : Prop :=
  ∃ E1, Ops P (l.take nf) E E1 ∧ OpsK P (fun E' => RunQ P Q k (keepOnly keep E')) (l.drop nf) E1
section
variable {P : Program} {Q : Env → Prop} {nf : Nat} {l : List GOp} {keep : List Nat} {k : List It} {E : Env}
theorem mid_zero : Mid 0 P Q l keep k E ↔ OpsK P (fun E' => RunQ P Q k (keepOnly keep E')) l E :=
  ⟨fun ⟨_, h1, h2⟩ => by cases h1; exact h2, fun h => ⟨E, .nil, h⟩⟩
theorem run_reg (h : Mid 0 P Q l keep k E) : RunQ P Q (.code (.reg none l keep) :: k) E := .reg (mid_zero.1 h) (fun _ h => h)
theorem run_drw {q : Nat × List (List Nat)} (hx : drawEx E (some q) l = true) (h : Mid q.1 P Q l keep k E) : RunQ P Q (.code (.reg (some q) l keep) :: k) E := let ⟨_, h1, h2⟩ := h; .drw h1 h2 hx (fun _ h => h)
theorem mid_nil (h : RunQ P Q k (keepOnly keep E)) : Mid nf P Q [] keep k E := ⟨E, by rw [List.take_nil]; exact .nil, by rw [List.drop_nil]; exact .nil h⟩
theorem mid_core {dst : Option Nat} {op : AOp} {E1 : Env} (hst : StepR P dst op E E1) (hm : Mid (nf - 1) P Q l keep k E1) : Mid nf P Q (⟨dst, none, op⟩ :: l) keep k E := by
  cases nf with
  | zero => exact mid_zero.2 (.run rfl (.of hst) (fun _ => mid_zero.1 hm))
  | succ nf => obtain ⟨E2, h1, h2⟩ := hm; exact ⟨E2, .step rfl hst h1, h2⟩
def stepE (E : Env) (dst : Option Nat) (op : AOp) : Option Env := if op.spec then stp E dst op else match dst, ev E op with
  | some d, some s => if okPut d s E then some ((d, s) :: E) else none
  | _, _ => none
theorem stepE_ok {dst : Option Nat} {op : AOp} {E1 : Env} (h : stepE E dst op = some E1) : StepR P dst op E E1 := by
  unfold stepE at h
  split at h
  · exact .spec h
  · split at h
    · split at h
      case isFalse => simp at h
      rename_i he hp
      simp only [Option.some.injEq] at h; subst h
      exact .pure he hp
    · simp at h
theorem mid_step {dst : Option Nat} {op : AOp} {E1 : Env} (h : stepE E dst op = some E1) (hm : Mid (nf - 1) P Q l keep k E1) : Mid nf P Q (⟨dst, none, op⟩ :: l) keep k E := mid_core (stepE_ok h) hm
theorem mid_call {d : Nat} {f : FuncId} {xs : List X} {args : List AV} {rs : List RV} {s : Slot} (hOK : CallsOK P f args rs) (hav : argsV E xs = some args) (hmode : (argsPure E xs || rs.all scalRV) = true) (hs : resSlot rs = some s) (hp : okPut d s E = true)
    (hm : Mid (nf - 1) P Q l keep k ((d, s) :: E)) : Mid nf P Q (⟨some d, none, .call f xs⟩ :: l) keep k E :=
  mid_core (.call ⟨args, rs, hav, hOK, by simpa using hmode, hs⟩ hp) hm
theorem mid_callv {d : Nat} {x : X} {f : FuncId} {caps : List (List DV)} {xs : List X} {args : List AV} {rs : List RV} {s : Slot} (hx : vw E x = .clo f caps) (hf : callable P f = true) (hOK : CallsOK P f (args ++ caps.map .row) rs) (hav : argsV E xs = some args)
    (hmode : (argsPure E xs || rs.all scalRV) = true) (hs : resSlot rs = some s) (hp : okPut d s E = true) (hm : Mid (nf - 1) P Q l keep k ((d, s) :: E)) : Mid nf P Q (⟨some d, none, .callv x xs⟩ :: l) keep k E :=
  mid_core (.callv hx hav hf hOK (by simpa using hmode) hs hp) hm
theorem run_cndU {x : X} {c1 c2 : CC} {pt pf : Prop} (hv : vw E x = .ub pt pf) (h1 : pt → RunQ P Q (.code c1 :: k) E) (h2 : pf → RunQ P Q (.code c2 :: k) E) : RunQ P Q (.code (.cnd x c1 c2) :: k) E := .cndU hv h1 h2
theorem mid_gd {dst : Option Nat} {n : Nat} {b b' : Bool} {op : AOp} (hget : get E n = .v (.bool b')) (h1 : b' = b → Mid nf P Q (⟨dst, none, op⟩ :: l) keep k E) (h0 : b' = !b → ∃ E1, skipE dst E = some E1 ∧ Mid (nf - 1) P Q l keep k E1) :
    Mid nf P Q (⟨dst, some (n, b), op⟩ :: l) keep k E := by
  by_cases hb : b' = b
  · subst hb
    have h2 := h1 rfl
    cases nf with
    | zero =>
      exact mid_zero.2 (.yes rfl hget (mid_zero.1 h2))
    | succ nf =>
      obtain ⟨E', h2, h3⟩ := h2
      refine ⟨E', ?_, h3⟩
      cases h2 with
      | step hg hst ho => exact .gyes rfl hget hst ho
      | gyes hg => simp at hg
      | gno hg => simp at hg
  · obtain ⟨E1, hsk, h2⟩ := h0 (by cases b <;> cases b' <;> simp_all)
    cases nf with
    | zero => exact mid_zero.2 (.no rfl (.inl ⟨_, hget, hb⟩) hsk (mid_zero.1 h2))
    | succ nf =>
      obtain ⟨E', h2, h3⟩ := h2
      exact ⟨E', .gno rfl (.inl ⟨_, hget, hb⟩) hsk h2, h3⟩
theorem mid_gd1 {dst : Option Nat} {n : Nat} {b : Bool} {op : AOp} (hget : get E n = .v (.bool b)) (h1 : Mid nf P Q (⟨dst, none, op⟩ :: l) keep k E) : Mid nf P Q (⟨dst, some (n, b), op⟩ :: l) keep k E :=
  mid_gd hget (fun _ => h1) (fun h => by cases b <;> simp at h)
theorem mid_gd0 {dst : Option Nat} {n : Nat} {b b' : Bool} {op : AOp} {E1 : Env} (hget : get E n = .v (.bool b')) (hb : (b' == b) = false) (hs : skipE dst E = some E1) (h0 : Mid (nf - 1) P Q l keep k E1) : Mid nf P Q (⟨dst, some (n, b), op⟩ :: l) keep k E :=
  mid_gd hget (fun h => by subst h; simp at hb) (fun _ => ⟨E1, hs, h0⟩)
theorem mid_gds {dst : Option Nat} {n : Nat} {b : Bool} {op : AOp} {E1 : Env} (hget : get E n = .skp) (hs : skipE dst E = some E1) (h0 : Mid (nf - 1) P Q l keep k E1) : Mid nf P Q (⟨dst, some (n, b), op⟩ :: l) keep k E := by
  cases nf with
  | zero => exact mid_zero.2 (.no rfl (.inr hget) hs (mid_zero.1 h0))
  | succ nf =>
    obtain ⟨E', h2, h3⟩ := h0
    exact ⟨E', .gno rfl (.inr hget) hs h2, h3⟩
end
end Go.Rd
namespace Go.Rd
section
variable {P : Program} {Q : Env → Prop} {nf : Nat} {l : List GOp} {keep : List Nat} {k : List It} {E : Env}
theorem mid_gdT {dst : Option Nat} {n : Nat} {b' : Bool} {op : AOp} {E1 : Env} (hget : get E n = .v (.bool b')) (hsk : skipE dst E = some E1) (h1 : b' = true → Mid nf P Q (⟨dst, none, op⟩ :: l) keep k E) (h0 : b' = false → Mid (nf - 1) P Q l keep k E1) :
    Mid nf P Q (⟨dst, some (n, true), op⟩ :: l) keep k E := mid_gd hget h1 (fun h => ⟨E1, hsk, h0 h⟩)
theorem mid_gdF {dst : Option Nat} {n : Nat} {b' : Bool} {op : AOp} {E1 : Env} (hget : get E n = .v (.bool b')) (hsk : skipE dst E = some E1) (h1 : b' = true → Mid (nf - 1) P Q l keep k E1) (h0 : b' = false → Mid nf P Q (⟨dst, none, op⟩ :: l) keep k E) :
    Mid nf P Q (⟨dst, some (n, false), op⟩ :: l) keep k E := mid_gd hget h0 (fun h => ⟨E1, hsk, h1 h⟩)
theorem run_cnd {x : X} {c1 c2 : CC} {b : Bool} (hb : vBool E x = some b) (h1 : b = true → RunQ P Q (.code c1 :: k) E) (h0 : b = false → RunQ P Q (.code c2 :: k) E) : RunQ P Q (.code (.cnd x c1 c2) :: k) E := by
  cases b
  · exact .cnd hb (h0 rfl)
  · exact .cnd hb (h1 rfl)
theorem run_cndT {x : X} {c1 c2 : CC} (hb : vBool E x = some true) (h1 : RunQ P Q (.code c1 :: k) E) : RunQ P Q (.code (.cnd x c1 c2) :: k) E := .cnd hb h1
theorem run_cndF {x : X} {c1 c2 : CC} (hb : vBool E x = some false) (h1 : RunQ P Q (.code c2 :: k) E) : RunQ P Q (.code (.cnd x c1 c2) :: k) E := .cnd hb h1
theorem run_ret {res : List RX} {r r' : List RV} (hr : resOf E res = some r') (he : r' = r) : RunQ P (fun E => resOf E res = some r) (.code .ret :: k) E := .ret (he ▸ hr)
theorem run_done {res : List RX} {r r' : List RV} (hr : resOf E res = some r') (he : r' = r) : RunQ P (fun E => resOf E res = some r) [] E := .done (he ▸ hr)
theorem mid_nil' {E' : Env} (he : keepOnly keep E = E') (h : RunQ P Q k E') : Mid nf P Q [] keep k E := mid_nil (he ▸ h)
theorem run_loop {c : CC} {E' : Env} (he : keepOnly keep E = E') (h : RunQ P Q (.code c :: .lp c keep :: k) E') : RunQ P Q (.code (.loop c keep) :: k) E := .loop (he ▸ h)
theorem run_back {c : CC} {E' : Env} (he : keepOnly keep E = E') (h : RunQ P Q (.code c :: .lp c keep :: k) E') : RunQ P Q (.lp c keep :: k) E := .back (he ▸ h)
end
end Go.Rd
/- Evaluation by 'rfl': every slot is brought to a constructor before it is laid down. -/
namespace Go.Rd
def force : Slot → Option Slot
  | .undef => some .undef
  | .v d => some (.v d)
  | .agg ds => some (.agg ds)
  | .tup rs => some (.tup rs)
  | .own e sz bys es => some (.own e sz bys es)
  | .box ds => some (.box ds)
  | .al n => some (.al n)
  | .ref n o => some (.ref n o)
  | .oel n i o => some (.oel n i o)
  | .row ds => some (.row ds)
  | .clo f caps => some (.clo f caps)
  | .ub pt pf => some (.ub pt pf)
  | .skp => some .skp
  | .heap fr v bs e sz bys es => some (.heap fr v bs e sz bys es)
  | .gp m i o => some (.gp m i o)
  | .hold b o => some (.hold b o)
theorem force_eq (s : Slot) : force s = some s := by cases s <;> rfl
def stepF (E : Env) (dst : Option Nat) (op : AOp) : Option Env := match stepE E dst op with
  | some ((d, s) :: E0) => match force s with
    | some s' => some ((d, s') :: E0)
    | none => none
  | _ => none
theorem stepF_eq {E E1 : Env} {dst : Option Nat} {op : AOp} (h : stepF E dst op = some E1) : stepE E dst op = some E1 := by
  unfold stepF at h
  split at h
  · rename_i d s E0 he
    rw [force_eq] at h
    simp only [Option.some.injEq] at h; subst h; exact he
  · simp at h
def kp (ks : List Nat) (E : Env) : List Nat → Option Env
  | [] => some []
  | n :: ns => match force (clean ks (get E n)), kp ks E ns with
    | some s, some r => some ((n, s) :: r)
    | _, _ => none
theorem kp_eq {ks : List Nat} {E : Env} : ∀ {ns : List Nat} {E' : Env}, kp ks E ns = some E' → ns.map (fun n => (n, clean ks (get E n))) = E'
  | [], E', h => by simp [kp] at h; subst h; rfl
  | n :: ns, E', h => by
    simp only [kp, force_eq] at h
    split at h
    · rename_i s r h1 h2
      simp only [Option.some.injEq] at h1 h; subst h1; subst h
      simp only [List.map_cons, kp_eq h2]
    · simp at h
section
variable {P : Program} {Q : Env → Prop} {nf : Nat} {l : List GOp} {keep : List Nat} {k : List It} {E : Env}
theorem mid_stepF {dst : Option Nat} {op : AOp} {E1 : Env} (h : stepF E dst op = some E1) (hm : Mid (nf - 1) P Q l keep k E1) : Mid nf P Q (⟨dst, none, op⟩ :: l) keep k E := mid_step (stepF_eq h) hm
theorem mid_nilF {E' : Env} (he : kp keep E keep = some E') (h : RunQ P Q k E') : Mid nf P Q [] keep k E := mid_nil' (kp_eq he) h
theorem run_loopF {c : CC} {E' : Env} (he : kp keep E keep = some E') (h : RunQ P Q (.code c :: .lp c keep :: k) E') : RunQ P Q (.code (.loop c keep) :: k) E := run_loop (kp_eq he) h
theorem run_backF {c : CC} {E' : Env} (he : kp keep E keep = some E') (h : RunQ P Q (.code c :: .lp c keep :: k) E') : RunQ P Q (.lp c keep :: k) E := run_back (kp_eq he) h
theorem mid_idx {d sz : Nat} {x i : X} {ki : IntKind} {j : Int} {es : List (List DV)} {row : List DV} (hx : vw E x = .v (.sl sz es)) (hi : vw E i = .v (.int ki j)) (h0 : 0 ≤ j) (h1 : j < es.length) (hr : es.getD j.toNat [] = row) (hp : okPut d (.row row) E = true)
    (hm : Mid (nf - 1) P Q l keep k ((d, .row row) :: E)) : Mid nf P Q (⟨some d, none, .idx sz x i⟩ :: l) keep k E := by
  refine mid_step (E1 := (d, .row row) :: E) ?_ hm
  subst hr
  have he : ev E (.idx sz x i) = some (.row (es.getD j.toNat [])) := by simp only [ev, vInt, hx, hi]; rw [if_pos ⟨trivial, h0, h1⟩]
  simp only [stepE, AOp.spec, Bool.false_eq_true, if_false, he, hp, if_true]
theorem mid_idxo {d sz n : Nat} {x i : X} {ki : IntKind} {j : Int} {e bys : Nat} {es : List (List DV)} (hx : vw E x = .al n) (hg : get E n = .own e sz bys es) (hi : vw E i = .v (.int ki j)) (h0 : 0 ≤ j) (h1 : j < es.length) (hp : okPut d (.oel n j.toNat 0) E = true)
    (hm : Mid (nf - 1) P Q l keep k ((d, .oel n j.toNat 0) :: E)) : Mid nf P Q (⟨some d, none, .idx sz x i⟩ :: l) keep k E := by
  refine mid_step (E1 := (d, .oel n j.toNat 0) :: E) ?_ hm
  have he : ev E (.idx sz x i) = some (.oel n j.toNat 0) := by simp only [ev, vInt, hx, hi, hg]; rw [if_pos ⟨trivial, h0, h1⟩]
  simp only [stepE, AOp.spec, Bool.false_eq_true, if_false, he, hp, if_true]
theorem mid_sidx {d : Nat} {x i : X} {ki : IntKind} {j : Int} {s : List UInt8} {c : Int} (hx : vw E x = .v (.str s)) (hi : vw E i = .v (.int ki j)) (h0 : 0 ≤ j) (h1 : j < s.length) (hc : ((s.getD j.toNat 0).toNat : Int) = c) (hp : okPut d (.v (.int .u8 c)) E = true)
    (hm : Mid (nf - 1) P Q l keep k ((d, .v (.int .u8 c)) :: E)) : Mid nf P Q (⟨some d, none, .sidx x i⟩ :: l) keep k E := by
  refine mid_step (E1 := (d, .v (.int .u8 c)) :: E) ?_ hm
  subst hc
  have he : ev E (.sidx x i) = some (.v (.int .u8 (s.getD j.toNat 0).toNat)) := by simp only [ev, vInt, vStr, hx, hi]; rw [if_pos ⟨h0, h1⟩]
  simp only [stepE, AOp.spec, Bool.false_eq_true, if_false, he, hp, if_true]
theorem mid_b2s {d : Nat} {x : X} {es : List (List DV)} {bs : List UInt8} (hx : vEls E x = some es) (hb : bytesOf es = some bs) (hp : okPut d (.v (.str bs)) E = true)
    (hm : Mid (nf - 1) P Q l keep k ((d, .v (.str bs)) :: E)) : Mid nf P Q (⟨some d, none, .b2s x⟩ :: l) keep k E := by
  refine mid_step (E1 := (d, .v (.str bs)) :: E) ?_ hm
  have he : ev E (.b2s x) = some (.v (.str bs)) := by simp only [ev, hx, hb, Option.map_some]
  simp only [stepE, AOp.spec, Bool.false_eq_true, if_false, he, hp, if_true]
theorem mid_ssub {d : Nat} {x : X} {lo hi : Option X} {s t : List UInt8} {i j : Int} (hx : vw E x = .v (.str s)) (hlo : bnd E lo 0 = some i) (hhi : bnd E hi s.length = some j) (h0 : 0 ≤ i) (h1 : i ≤ j) (h2 : j ≤ s.length) (ht : (s.take j.toNat).drop i.toNat = t)
    (hp : okPut d (.v (.str t)) E = true) (hm : Mid (nf - 1) P Q l keep k ((d, .v (.str t)) :: E)) : Mid nf P Q (⟨some d, none, .ssub x lo hi⟩ :: l) keep k E := by
  refine mid_step (E1 := (d, .v (.str t)) :: E) ?_ hm
  subst ht
  have he : ev E (.ssub x lo hi) = some (.v (.str ((s.take j.toNat).drop i.toNat))) := by simp only [ev, vStr, hx, hlo, hhi]; rw [if_pos ⟨h0, h1, h2⟩]
  simp only [stepE, AOp.spec, Bool.false_eq_true, if_false, he, hp, if_true]
theorem mid_quo {d : Nat} {x y : X} {ki : IntKind} {i j q : Int} (hx : vw E x = .v (.int ki i)) (hy : vw E y = .v (.int ki j)) (h0 : j ≠ 0) (hq : ki.wrap (i.tdiv j) = q) (hp : okPut d (.v (.int ki q)) E = true)
    (hm : Mid (nf - 1) P Q l keep k ((d, .v (.int ki q)) :: E)) : Mid nf P Q (⟨some d, none, .bin .quo x y⟩ :: l) keep k E := by
  refine mid_step (E1 := (d, .v (.int ki q)) :: E) ?_ hm
  subst hq
  have he : ev E (.bin .quo x y) = some (.v (.int ki (ki.wrap (i.tdiv j)))) := by simp only [ev, hx, hy, binD, intD, if_true, if_neg h0]; rfl
  simp only [stepE, AOp.spec, Bool.false_eq_true, if_false, he, hp, if_true]
theorem mid_rem {d : Nat} {x y : X} {ki : IntKind} {i j q : Int} (hx : vw E x = .v (.int ki i)) (hy : vw E y = .v (.int ki j)) (h0 : j ≠ 0) (hq : i.tmod j = q) (hp : okPut d (.v (.int ki q)) E = true)
    (hm : Mid (nf - 1) P Q l keep k ((d, .v (.int ki q)) :: E)) : Mid nf P Q (⟨some d, none, .bin .rem x y⟩ :: l) keep k E := by
  refine mid_step (E1 := (d, .v (.int ki q)) :: E) ?_ hm
  subst hq
  have he : ev E (.bin .rem x y) = some (.v (.int ki (i.tmod j))) := by simp only [ev, hx, hy, binD, intD, if_true, if_neg h0]; rfl
  simp only [stepE, AOp.spec, Bool.false_eq_true, if_false, he, hp, if_true]
theorem mid_cat {d : Nat} {x y : X} {s t : List UInt8} (hx : vw E x = .v (.str s)) (hy : vw E y = .v (.str t)) (h0 : s.length + t.length ≤ 9223372036854775807) (hp : okPut d (.v (.str (s ++ t))) E = true)
    (hm : Mid (nf - 1) P Q l keep k ((d, .v (.str (s ++ t))) :: E)) : Mid nf P Q (⟨some d, none, .bin .add x y⟩ :: l) keep k E := by
  refine mid_step (E1 := (d, .v (.str (s ++ t))) :: E) ?_ hm
  have he : ev E (.bin .add x y) = some (.v (.str (s ++ t))) := by simp only [ev, hx, hy, binD, strD, if_pos h0]; rfl
  simp only [stepE, AOp.spec, Bool.false_eq_true, if_false, he, hp, if_true]
theorem run_cnd_lt {x : X} {c1 c2 : CC} {i n : Nat} (hb : vBool E x = some (decide ((i : Int) < n))) (h1 : i < n → RunQ P Q (.code c1 :: k) E) (h0 : ¬ i < n → RunQ P Q (.code c2 :: k) E) : RunQ P Q (.code (.cnd x c1 c2) :: k) E :=
  run_cnd hb (fun h => h1 (by simpa using h)) (fun h => h0 (by simpa using h))
end
end Go.Rd
namespace Go.Rd
theorem w64 {x : Int} (h0 : -9223372036854775808 ≤ x) (h1 : x < 9223372036854775808) : IntKind.i64.wrap x = x := by rw [IntKind.wrap_i64]; omega
theorem wsucc {k : Nat} (h : k < 9223372036854775807) : IntKind.i64.wrap ((k : Int) + 1) = ((k + 1 : Nat) : Int) := by rw [w64 (by omega) (by omega)]; omega
end Go.Rd
namespace Go.Rd
theorem up (n : Nat) {M : Nat → Prop} (h : ∀ k, (k < n → M (k + 1)) → M k) : ∀ k, M k := by
  have : ∀ d k, n - k = d → M k := by
    intro d
    induction d with
    | zero => intro k hk; exact h k (fun hlt => by omega)
    | succ d ih => intro k hk; exact h k (fun _ => ih (k + 1) (by omega))
  exact fun k => this _ k rfl
end Go.Rd

namespace Go.Rd
open Go.RowKit
def fillRows {α : Type} (f : α → List DV) (z : List DV) (l : List α) (k : Nat) : List (List DV) := (l.take k).map f ++ List.replicate (l.length - k) z
theorem fillRows_zero {α : Type} (f : α → List DV) (z : List DV) (l : List α) : fillRows f z l 0 = List.replicate l.length z := by simp [fillRows]
theorem fillRows_all {α : Type} (f : α → List DV) (z : List DV) (l : List α) {k : Nat} (h : l.length ≤ k) : fillRows f z l k = l.map f := by
  simp [fillRows, List.take_of_length_le h, Nat.sub_eq_zero_of_le h]
theorem fillRows_len {α : Type} (f : α → List DV) (z : List DV) (l : List α) {k : Nat} (h : k ≤ l.length) : (fillRows f z l k).length = l.length := by
  simp [fillRows]; omega
theorem fillRows_get {α : Type} (f : α → List DV) (z : List DV) (l : List α) {k : Nat} (h : k < l.length) : (fillRows f z l k).getD k [] = z := by
  have h1 : (List.take k l).length = k := by simp; omega
  rw [fillRows, List.getD_eq_getElem?_getD, List.getElem?_append_right (by simp; omega)]
  simp only [List.length_map, h1, Nat.sub_self]
  rw [List.getElem?_replicate, if_pos (by omega)]; rfl
theorem fillRows_set {α : Type} (f : α → List DV) (z : List DV) (l : List α) {k : Nat} (h : k < l.length) : (fillRows f z l k).set k (f l[k]) = fillRows f z l (k + 1) := by
  have h1 : ((List.take k l).map f).length = k := by simp; omega
  rw [fillRows, List.set_append_right _ _ (by omega), h1, Nat.sub_self, show l.length - k = (l.length - (k + 1)) + 1 by omega, List.replicate_succ, List.set_cons_zero]
  rw [fillRows, ← List.take_append_getElem h, List.map_append, List.append_assoc]
  rfl
theorem fillRows_len1 {α : Type} (f : α → List DV) (z : List DV) (l : List α) {k : Nat} (h : k < l.length) : ((fillRows f z l k).getD (Int.toNat (k : Int)) []).length = z.length := by
  rw [Int.toNat_natCast, fillRows_get f z l h]
theorem map_take_succ {α β : Type} (f : α → β) (l : List α) {k : Nat} (h : k < l.length) : (l.take (k + 1)).map f = (l.take k).map f ++ [f l[k]] := by
  rw [← List.take_append_getElem h, List.map_append]; rfl
theorem getD_map {α : Type} (f : α → List DV) (l : List α) {k : Nat} (h : k < l.length) : (l.map f).getD k [] = f l[k] := by
  rw [List.getD_eq_getElem?_getD, List.getElem?_map, List.getElem?_eq_getElem h]; rfl
section
variable {P : Program} {Q : Env → Prop} {nf : Nat} {l : List GOp} {keep : List Nat} {k : List It} {E : Env}
theorem mid_idxm {α : Type} {f : α → List DV} {xs : List α} {n : Nat} {d sz : Nat} {x i : X} {ki : IntKind} (hx : vw E x = .v (.sl sz (xs.map f))) (hi : vw E i = .v (.int ki (n : Int))) (hn : n < xs.length) (hp : okPut d (.row (f xs[n])) E = true)
    (hm : Mid (nf - 1) P Q l keep k ((d, .row (f xs[n])) :: E)) : Mid nf P Q (⟨some d, none, .idx sz x i⟩ :: l) keep k E :=
  mid_idx hx hi (by omega) (by simpa using hn) (by rw [Int.toNat_natCast]; exact getD_map f xs hn) hp hm
theorem mid_sidxs {d n : Nat} {x i : X} {ki : IntKind} {s : List UInt8} (hx : vw E x = .v (.str s)) (hi : vw E i = .v (.int ki (n : Int))) (hn : n < s.length) (hp : okPut d (.v (.int .u8 (s[n].toNat : Int))) E = true)
    (hm : Mid (nf - 1) P Q l keep k ((d, .v (.int .u8 (s[n].toNat : Int))) :: E)) : Mid nf P Q (⟨some d, none, .sidx x i⟩ :: l) keep k E :=
  mid_sidx hx hi (by omega) (by omega) (by rw [Int.toNat_natCast, List.getD_eq_getElem?_getD, List.getElem?_eq_getElem hn]; rfl) hp hm
theorem mid_mks {d e sz bys : Nat} {zero : List DV} {x : X} {ki : IntKind} {n : Nat} (hx : vw E x = .v (.int ki (n : Int))) (hb : bys * n ≤ 140737488355328) (hn : n ≤ 1099511627776) (hp : okPut d .undef E = true)
    (hm : Mid (nf - 1) P Q l keep k ((d, .own e sz bys (List.replicate n zero)) :: E)) : Mid nf P Q (⟨some d, none, .mks e sz bys zero x⟩ :: l) keep k E := by
  refine mid_step (E1 := (d, .own e sz bys (List.replicate n zero)) :: E) ?_ hm
  have hv : vInt E x = some (n : Int) := by simp only [vInt, hx]
  have h2 : (bys : Int) * n ≤ 140737488355328 := by
    have h3 : ((bys * n : Nat) : Int) ≤ ((140737488355328 : Nat) : Int) := Int.ofNat_le.2 hb
    rw [Int.natCast_mul] at h3
    exact h3
  have h1 : (0 : Int) ≤ (n : Int) ∧ (bys : Int) * n ≤ 140737488355328 ∧ (n : Int) ≤ 1099511627776 := ⟨by omega, h2, by omega⟩
  unfold stepE
  rw [if_pos (show (AOp.mks e sz bys zero x).spec = true from rfl)]
  unfold stp
  dsimp only
  rw [if_pos hp, hv]
  dsimp only
  rw [if_pos h1, Int.toNat_natCast]
theorem mid_sto_row {n i m sz bys e : Nat} {a x : X} {es : List (List DV)} {ds : List DV} (ha : vw E a = .oel n i 0) (hg : get E n = .own e sz bys es) (hx : vw E x = .agg ds) (hm' : m = ds.length) (hsz : ds.length = sz) (hi : (es.getD i []).length = sz)
    (hm : Mid (nf - 1) P Q l keep k ((n, .own e sz bys (es.set i ds)) :: E)) : Mid nf P Q (⟨none, none, .sto m a x⟩ :: l) keep k E := by
  refine mid_step (E1 := (n, .own e sz bys (es.set i ds)) :: E) ?_ hm
  simp only [stepE, AOp.spec, if_true, stp, ha, isOwn, hg, hx]
  rw [if_pos ⟨hm', by omega⟩]
  simp only [Nat.zero_add, List.take_zero, List.nil_append]
  rw [List.drop_of_length_le (by omega), List.append_nil]
theorem mid_sto_one {n i sz bys e : Nat} {a x : X} {es : List (List DV)} {v : DV} (ha : vw E a = .oel n i 0) (hg : get E n = .own e sz bys es) (hx : vw E x = .v v) (hsz : sz = 1) (hi : (es.getD i []).length = 1)
    (hm : Mid (nf - 1) P Q l keep k ((n, .own e sz bys (es.set i [v])) :: E)) : Mid nf P Q (⟨none, none, .sto 1 a x⟩ :: l) keep k E := by
  refine mid_step (E1 := (n, .own e sz bys (es.set i [v])) :: E) ?_ hm
  simp only [stepE, AOp.spec, if_true, stp, ha, isOwn, hg, hx]
  rw [if_pos ⟨trivial, by omega⟩]
  match h : es.getD i [], hi with
  | [u], _ => rfl
theorem mid_app {d n e sz bys : Nat} {x y : X} {es fs : List (List DV)} (hx : vw E x = .al n) (hg : get E n = .own e sz bys es) (hy : vw E y = .v (.sl sz fs)) (hd : d ≠ n) (hp : okPut d .undef (drop1 n E) = true) (hb : (es.length + fs.length) * bys ≤ 140737488355328) (hn : es.length + fs.length ≤ 1099511627776)
    (hm : Mid (nf - 1) P Q l keep k ((d, .own e sz bys (es ++ fs)) :: drop1 n E)) : Mid nf P Q (⟨some d, none, .app e sz bys x y⟩ :: l) keep k E := by
  refine mid_step (E1 := (d, .own e sz bys (es ++ fs)) :: drop1 n E) ?_ hm
  cases x with
  | nil s => simp [vw] at hx
  | t m =>
    simp only [stepE, AOp.spec, if_true, stp, hx, hy, isOwn, hg]
    rw [if_pos ⟨trivial, trivial, trivial, trivial, hd, hp, hb, hn⟩]
  | c v => simp [vw] at hx
  | fn f => simp [vw] at hx
theorem run_neI {x : X} {c1 c2 : CC} {n : Int} (hb : vBool E x = some (n != n)) (h : RunQ P Q (.code c2 :: k) E) : RunQ P Q (.code (.cnd x c1 c2) :: k) E := run_cndF (by simpa using hb) h
theorem run_neS {x : X} {c1 c2 : CC} {s : List UInt8} (hb : vBool E x = some (!(s == s))) (h : RunQ P Q (.code c2 :: k) E) : RunQ P Q (.code (.cnd x c1 c2) :: k) E := run_cndF (by simpa using hb) h
theorem run_sz {x : X} {c1 c2 : CC} {n : Int} (hb : vBool E x = some (decide (n < 0))) (h1 : n < 0 → RunQ P Q (.code c1 :: k) E) (h0 : ¬ n < 0 → RunQ P Q (.code c2 :: k) E) : RunQ P Q (.code (.cnd x c1 c2) :: k) E :=
  run_cnd hb (fun h => h1 (by simpa using h)) (fun h => h0 (by simpa using h))
end
end Go.Rd

namespace Go.Rd
open Go.RowKit
def nextR : List It → Env → Option (List It × Env)
  | .code .skip :: k, E => some (k, E)
  | .code (.seq x y) :: k, E => some (.code x :: .code y :: k, E)
  | .code (.cnd x a b) :: k, E => match vBool E x with
    | some true => some (.code a :: k, E)
    | some false => some (.code b :: k, E)
    | none => none
  | .code (.blk id c) :: k, E => some (.code c :: .blk id :: k, E)
  | .blk _ :: k, E => some (k, E)
  | .code (.exit id) :: k, E => match exitIt id k with
    | some k' => some (k', E)
    | none => none
  | _, _ => none
def nextM (nf : Nat) : List GOp → Env → Option (Nat × List GOp × Env)
  | ⟨dst, none, op⟩ :: l, E => match stepF E dst op with
    | some E1 => (match nf with
      | 0 => some (0, l, E1)
      | m + 1 => some (m, l, E1))
    | none => none
  | ⟨dst, some (n, b), op⟩ :: l, E => match get E n with
    | .v (.bool b') => match b' == b with
      | true => some (nf, ⟨dst, none, op⟩ :: l, E)
      | false => match skipE dst E with
        | some E1 => (match nf with
          | 0 => some (0, l, E1)
          | m + 1 => some (m, l, E1))
        | none => none
    | .skp => match skipE dst E with
      | some E1 => (match nf with
        | 0 => some (0, l, E1)
        | m + 1 => some (m, l, E1))
      | none => none
    | _ => none
  | _, _ => none
def qn : Option (Nat × List (List Nat)) → Nat
  | none => 0
  | some q => q.1
section
variable {P : Program} {Q : Env → Prop} {nf : Nat} {l l' : List GOp} {keep : List Nat} {k k' : List It} {E E' : Env}
theorem goR (h : nextR k E = some (k', E')) (hm : RunQ P Q k' E') : RunQ P Q k E := by
  unfold nextR at h
  split at h
  · simp only [Option.some.injEq, Prod.mk.injEq] at h; obtain ⟨rfl, rfl⟩ := h; exact .skip hm
  · simp only [Option.some.injEq, Prod.mk.injEq] at h; obtain ⟨rfl, rfl⟩ := h; exact .seq hm
  · split at h
    · rename_i hb; simp only [Option.some.injEq, Prod.mk.injEq] at h; obtain ⟨rfl, rfl⟩ := h; exact run_cndT hb hm
    · rename_i hb; simp only [Option.some.injEq, Prod.mk.injEq] at h; obtain ⟨rfl, rfl⟩ := h; exact run_cndF hb hm
    · simp at h
  · simp only [Option.some.injEq, Prod.mk.injEq] at h; obtain ⟨rfl, rfl⟩ := h; exact .blk hm
  · simp only [Option.some.injEq, Prod.mk.injEq] at h; obtain ⟨rfl, rfl⟩ := h; exact .pop hm
  · split at h
    · rename_i hx; simp only [Option.some.injEq, Prod.mk.injEq] at h; obtain ⟨rfl, rfl⟩ := h; exact .exit hx hm
    · simp at h
  · simp at h
theorem goM {nf' : Nat} (h : nextM nf l E = some (nf', l', E')) (hm : Mid nf' P Q l' keep k E') : Mid nf P Q l keep k E := by
  unfold nextM at h
  split at h
  · split at h
    · rename_i he
      refine mid_stepF he ?_
      split at h <;> (simp only [Option.some.injEq, Prod.mk.injEq] at h; obtain ⟨rfl, rfl, rfl⟩ := h; exact hm)
    · simp at h
  · split at h
    · rename_i hg
      split at h
      · rename_i hb
        have e := eq_of_beq hb
        subst e
        simp only [Option.some.injEq, Prod.mk.injEq] at h; obtain ⟨rfl, rfl, rfl⟩ := h; exact mid_gd1 hg hm
      · rename_i hb
        split at h
        · rename_i hs
          refine mid_gd0 hg hb hs ?_
          split at h <;> (simp only [Option.some.injEq, Prod.mk.injEq] at h; obtain ⟨rfl, rfl, rfl⟩ := h; exact hm)
        · simp at h
    · rename_i hg
      split at h
      · rename_i hs
        refine mid_gds hg hs ?_
        split at h <;> (simp only [Option.some.injEq, Prod.mk.injEq] at h; obtain ⟨rfl, rfl, rfl⟩ := h; exact hm)
      · simp at h
    · simp at h
  · simp at h
theorem goX {q : Option (Nat × List (List Nat))} (hx : drawEx E q l = true) (h : Mid (qn q) P Q l keep k E) : RunQ P Q (.code (.reg q l keep) :: k) E := by
  cases q with
  | none => exact run_reg h
  | some q => exact run_drw hx h
theorem goY (he : kp keep E keep = some E') (h : RunQ P Q k E') : Mid nf P Q [] keep k E := mid_nilF he h
theorem goC {d : Nat} {f : FuncId} {xs : List X} {args : List AV} {rs : List RV} {s : Slot} (hOK : CallsOK P f args rs) (hav : argsV E xs = some args) (hmode : (argsPure E xs || rs.all scalRV) = true) (hs : resSlot rs = some s) (hp : okPut d s E = true)
    (hm : Mid (nf - 1) P Q l keep k ((d, s) :: E)) : Mid nf P Q (⟨some d, none, .call f xs⟩ :: l) keep k E := mid_call hOK hav hmode hs hp hm
theorem take_one {s : List UInt8} {k : Nat} (h : k < s.length) : (s.take (k + 1)).drop k = [s[k]] := by
  rw [List.take_succ_eq_append_getElem h, List.drop_append_of_le_length (by simp; omega), List.drop_of_length_le (by simp; omega)]; rfl
theorem mid_byte {d n : Nat} {x : X} {lo hi : Option X} {s : List UInt8} (hx : vw E x = .v (.str s)) (hlo : bnd E lo 0 = some (n : Int)) (hhi : bnd E hi s.length = some (IntKind.i64.wrap ((n : Int) + 1))) (hn : n < s.length) (hl : s.length < 9223372036854775807)
    (hp : okPut d (.v (.str [s[n]])) E = true) (hm : Mid (nf - 1) P Q l keep k ((d, .v (.str [s[n]])) :: E)) : Mid nf P Q (⟨some d, none, .ssub x lo hi⟩ :: l) keep k E := by
  rw [wsucc (by omega)] at hhi
  exact mid_ssub hx hlo hhi (by omega) (by omega) (by omega) (by rw [Int.toNat_natCast, Int.toNat_natCast]; exact take_one hn) hp hm
end
end Go.Rd

namespace Go.Rd
open Go.RowKit
section
variable {P : Program} {Q : Env → Prop} {nf : Nat} {l : List GOp} {keep : List Nat} {k : List It} {E : Env}
theorem mid_idxj {α : Type} [Inhabited α] {f : α → List DV} {xs : List α} {d sz : Nat} {x i : X} {ki : IntKind} {j : Int} (hx : vw E x = .v (.sl sz (xs.map f))) (hi : vw E i = .v (.int ki j)) (hj : 0 ≤ j ∧ j < xs.length) (hp : okPut d (.row (f (xs.getD j.toNat default))) E = true)
    (hm : Mid (nf - 1) P Q l keep k ((d, .row (f (xs.getD j.toNat default))) :: E)) : Mid nf P Q (⟨some d, none, .idx sz x i⟩ :: l) keep k E :=
  mid_idx hx hi hj.1 (by simpa using hj.2) (by
    rw [getD_map f xs (show j.toNat < xs.length by omega), List.getD_eq_getElem?_getD, List.getElem?_eq_getElem (show j.toNat < xs.length by omega)]; rfl) hp hm
end
end Go.Rd
namespace Go.Rd
section
variable {P : Program} {Q : Env → Prop} {nf : Nat} {l : List GOp} {keep : List Nat} {k : List It} {E : Env}
theorem mid_sidxv {d n : Nat} {x i : X} {ki : IntKind} {s : List UInt8} {c : Int} (hn : n < s.length) (hc : (s[n].toNat : Int) = c) (hx : vw E x = .v (.str s)) (hi : vw E i = .v (.int ki (n : Int))) (hp : okPut d (.v (.int .u8 c)) E = true)
    (hm : Mid (nf - 1) P Q l keep k ((d, .v (.int .u8 c)) :: E)) : Mid nf P Q (⟨some d, none, .sidx x i⟩ :: l) keep k E := by
  subst hc
  exact mid_sidxs hx hi hn hp hm
end
end Go.Rd

namespace Go.Rd
open Go.RowKit
def DV.flat : DV → Bool
  | .own .. => false
  | _ => true
def flatRows (es : List (List DV)) : Prop := ∀ r ∈ es, ∀ d ∈ r, d.flat = true
section
variable {ok : Nat → Prop} {w : World}
theorem xrep_flat {d : DV} {v : Value} {bs : List Nat} (hd : d.flat = true) : XRep ok w d v bs ↔ bs = [] ∧ Rep ok w d v := by
  cases d <;> simp_all [XRep, Rep, DV.flat]
theorem xrow_get : ∀ {ds : List DV} {xs : List Value} {fs : List Nat}, XRow ok w ds xs fs → ∀ {o : Nat} {d : DV}, ds[o]? = some d → ∃ x f, xs[o]? = some x ∧ XRep ok w d x f ∧ ∀ b ∈ f, b ∈ fs
  | [], _, _, _, o, d, hd => by simp at hd
  | e :: ds, xs, fs, h, o, d, hd => by
    simp only [XRow] at h
    obtain ⟨x, ys, f1, f2, rfl, rfl, h3, h4⟩ := h
    cases o with
    | zero => simp at hd; subst hd; exact ⟨x, f1, by simp, h3, fun b hb => by simp [hb]⟩
    | succ o =>
      obtain ⟨y, f, h5, h6, h7⟩ := xrow_get h4 (o := o) (d := d) (by simpa using hd)
      exact ⟨y, f, by simpa using h5, h6, fun b hb => by simp [h7 b hb]⟩
theorem xrows_get {sz : Nat} : ∀ {rs : List (List DV)} {xs : List Value} {fs : List Nat}, XRows ok w sz rs xs fs → ∀ {i : Nat}, i < rs.length → (rs.getD i []).length = sz ∧ ∃ f1, XRow ok w (rs.getD i []) (xs.drop (i * sz)) f1 ∧ ∀ b ∈ f1, b ∈ fs
  | [], _, _, _, i, hi => by simp at hi
  | r :: rs, xs, fs, h, i, hi => by
    simp only [XRows] at h
    obtain ⟨f1, f2, h1, rfl, h3, h4⟩ := h
    cases i with
    | zero => exact ⟨h1, f1, by simpa using h3, fun b hb => by simp [hb]⟩
    | succ i =>
      obtain ⟨h5, f, h6, h7⟩ := xrows_get h4 (i := i) (by simpa using hi)
      refine ⟨by simpa using h5, f, ?_, fun b hb => by simp [h7 b hb]⟩
      rw [List.drop_drop] at h6
      simpa [Nat.add_mul, Nat.add_comm] using h6
theorem xrow_set : ∀ {ds : List DV} {xs : List Value} {fs : List Nat}, XRow ok w ds xs fs → ∀ {o : Nat} {d0 d : DV} {u : Value}, ds[o]? = some d0 → d0.flat = true → d.flat = true → Rep ok w d u → XRow ok w (ds.set o d) (xs.set o u) fs
  | [], _, _, _, o, _, _, _, hd, _, _, _ => by simp at hd
  | e :: ds, xs, fs, h, o, d0, d, u, hd, h0, h1, hr => by
    simp only [XRow] at h
    obtain ⟨x, ys, f1, f2, rfl, rfl, h3, h4⟩ := h
    cases o with
    | zero =>
      simp at hd; subst hd
      have := (xrep_flat h0).1 h3
      obtain ⟨rfl, _⟩ := this
      simp only [List.set_cons_zero, XRow]
      exact ⟨u, ys, [], f2, rfl, rfl, (xrep_flat h1).2 ⟨rfl, hr⟩, h4⟩
    | succ o =>
      simp only [List.set_cons_succ, XRow]
      exact ⟨x, ys.set o u, f1, f2, rfl, rfl, h3, xrow_set h4 (by simpa using hd) h0 h1 hr⟩
theorem xrow_ge : ∀ {ds : List DV} {xs : List Value} {fs : List Nat} {j : Nat} {u : Value}, XRow ok w ds xs fs → ds.length ≤ j → XRow ok w ds (xs.set j u) fs
  | [], _, _, _, _, h, _ => by simpa [XRow] using h
  | e :: ds, xs, fs, j, u, h, hj => by
    simp only [XRow] at h ⊢
    obtain ⟨x, ys, f1, f2, rfl, rfl, h3, h4⟩ := h
    cases j with
    | zero => simp at hj
    | succ j => exact ⟨x, ys.set j u, f1, f2, by simp, rfl, h3, xrow_ge h4 (by simpa using hj)⟩
theorem xrows_set {sz : Nat} : ∀ {rs : List (List DV)} {xs : List Value} {fs : List Nat}, XRows ok w sz rs xs fs → ∀ {i o : Nat} {d0 d : DV} {u : Value}, i < rs.length → (rs.getD i [])[o]? = some d0 → d0.flat = true → d.flat = true → Rep ok w d u →
    XRows ok w sz (rs.set i ((rs.getD i []).set o d)) (xs.set (i * sz + o) u) fs
  | [], _, _, _, i, _, _, _, _, hi, _, _, _, _ => by simp at hi
  | r :: rs, xs, fs, h, i, o, d0, d, u, hi, hd, h0, h1, hr => by
    simp only [XRows] at h
    obtain ⟨f1, f2, hl, rfl, h3, h4⟩ := h
    cases i with
    | zero =>
      have hd' : r[o]? = some d0 := by simpa using hd
      have ho : o < r.length := (List.getElem?_eq_some_iff.1 hd').1
      simp only [List.set_cons_zero, List.getD_cons_zero, XRows, Nat.zero_mul, Nat.zero_add]
      refine ⟨f1, f2, by simpa using hl, rfl, xrow_set h3 hd' h0 h1 hr, ?_⟩
      rw [List.drop_set_of_lt (by omega)]; exact h4
    | succ i =>
      simp only [List.set_cons_succ, List.getD_cons_succ, XRows]
      refine ⟨f1, f2, hl, rfl, xrow_ge h3 (by rw [Nat.add_mul]; omega), ?_⟩
      have := xrows_set h4 (i := i) (o := o) (u := u) (by simpa using hi) (by simpa using hd) h0 h1 hr
      rw [List.drop_set, if_neg (by rw [Nat.add_mul]; omega), show (i + 1) * sz + o - sz = i * sz + o by rw [Nat.add_mul]; omega]
      exact this
theorem xrows_flat {sz : Nat} : ∀ {rs : List (List DV)} {xs : List Value} {fs : List Nat}, flatRows rs → XRows ok w sz rs xs fs → fs = [] ∧ (∀ r ∈ rs, r.length = sz) ∧ All2 (Rep ok w) rs.flatten (xs.take (rs.length * sz))
  | [], xs, fs, _, h => by simp [XRows] at h; subst h; exact ⟨rfl, by simp, by simp [All2]⟩
  | r :: rs, xs, fs, hf, h => by
    simp only [XRows] at h
    obtain ⟨f1, f2, hl, rfl, h3, h4⟩ := h
    have hrow : ∀ {ds : List DV} {ys : List Value} {gs : List Nat}, (∀ d ∈ ds, d.flat = true) → XRow ok w ds ys gs → gs = [] ∧ ds.length ≤ ys.length ∧ All2 (Rep ok w) ds (ys.take ds.length) := by
      intro ds
      induction ds with
      | nil => intro ys gs _ h; simp [XRow] at h; subst h; exact ⟨rfl, by simp, by simp [All2]⟩
      | cons d ds ih =>
        intro ys gs hd h
        simp only [XRow] at h
        obtain ⟨x, zs, g1, g2, rfl, rfl, h5, h6⟩ := h
        obtain ⟨rfl, h7⟩ := (xrep_flat (hd d (by simp))).1 h5
        obtain ⟨rfl, h8, h9⟩ := ih (fun e he => hd e (by simp [he])) h6
        exact ⟨rfl, by simpa using h8, h7, h9⟩
    obtain ⟨rfl, h5, h6⟩ := hrow (hf r (by simp)) h3
    obtain ⟨rfl, h7, h8⟩ := xrows_flat (fun q hq => hf q (by simp [hq])) h4
    refine ⟨rfl, fun q hq => ?_, ?_⟩
    · rcases List.mem_cons.1 hq with rfl | hq
      · exact hl
      · exact h7 q hq
    · have e : xs.take ((r :: rs).length * sz) = xs.take r.length ++ (xs.drop sz).take (rs.length * sz) := by
        rw [List.length_cons, Nat.add_mul, Nat.one_mul, Nat.add_comm, ← hl, List.take_add]
      rw [e, List.flatten_cons]
      exact All2.append _ _ _ _ h6 h8
theorem xrows_of {sz : Nat} : ∀ {rs : List (List DV)} {xs : List Value}, flatRows rs → (∀ r ∈ rs, r.length = sz) → rs.length * sz ≤ xs.length → All2 (Rep ok w) rs.flatten (xs.take (rs.length * sz)) → XRows ok w sz rs xs []
  | [], xs, _, _, _, _ => by simp [XRows]
  | r :: rs, xs, hf, hl, hx, h => by
    have hrl := hl r (by simp)
    have hrow : ∀ {ds : List DV} {ys : List Value}, (∀ d ∈ ds, d.flat = true) → ds.length ≤ ys.length → All2 (Rep ok w) ds (ys.take ds.length) → XRow ok w ds ys [] := by
      intro ds
      induction ds with
      | nil => intro ys _ _ _; simp [XRow]
      | cons d ds ih =>
        intro ys hd hy h
        cases ys with
        | nil => simp at hy
        | cons y ys =>
          simp only [XRow]
          exact ⟨y, ys, [], [], rfl, rfl, (xrep_flat (hd d (by simp))).2 ⟨rfl, h.1⟩, ih (fun e he => hd e (by simp [he])) (by simpa using hy) h.2⟩
    simp only [List.length_cons, Nat.add_mul, Nat.one_mul] at hx
    have e : xs.take ((r :: rs).length * sz) = xs.take r.length ++ (xs.drop sz).take (rs.length * sz) := by
      rw [List.length_cons, Nat.add_mul, Nat.one_mul, Nat.add_comm, ← hrl, List.take_add]
    rw [e, List.flatten_cons] at h
    have hsplit : ∀ {as cs : List DV} {bs ds : List Value}, as.length = bs.length → All2 (Rep ok w) (as ++ cs) (bs ++ ds) → All2 (Rep ok w) as bs ∧ All2 (Rep ok w) cs ds := by
      intro as
      induction as with
      | nil => intro cs bs ds hb h; cases bs with
        | nil => exact ⟨trivial, h⟩
        | cons => simp at hb
      | cons a as ih => intro cs bs ds hb h; cases bs with
        | nil => simp at hb
        | cons b bs =>
          obtain ⟨h1, h2⟩ := ih (by simpa using hb) h.2
          exact ⟨⟨h.1, h1⟩, h2⟩
    obtain ⟨h1, h2⟩ := hsplit (by simp; omega) h
    simp only [XRows]
    exact ⟨[], [], hrl, rfl, hrow (hf r (by simp)) (by omega) h1, xrows_of (fun q hq => hf q (by simp [hq])) (fun q hq => hl q (by simp [hq])) (by simp; omega) h2⟩
end
section
variable {P : Program} {ok : Nat → Prop} {N : Nat} {B : Bd} {w0 : World} {E : Env} {a : Act} {w : World}
theorem heap_full {m : Nat} {fr : Bool} {v : Value} {bs : List Nat} {e sz bys : Nat} {es : List (List DV)} (h : InvO ok N B w0 E a w) (hg : get E m = .heap fr v bs e sz bys es) :
    (v = .slice none 0 0 ∧ es = [] ∧ bs = []) ∨ ∃ g cap cur fs, v = .slice (some ⟨g, 0, none⟩) es.length cap ∧ w.heap[g]? = some (.cells cur e (0, 0)) ∧ es.length ≤ cap ∧ cap ≤ maxLen ∧ cur.size = cap * sz ∧ bs = g :: fs ∧ XRows ok w sz es cur.toList fs := by
  have hs := h.slot m
  rw [hg] at hs
  have := hs.1
  simpa only [XRep] using this
theorem gives_idxH {t : TypeId} {y i : Operand} {sz m : Nat} {x j : X} {k : Int} {fr : Bool} {v : Value} {bs : List Nat} {e bys : Nat} {es : List (List DV)} (h : InvO ok N B w0 E a w) (hc : chk P (.indexAddr t y i) (.idx sz x j) = true)
    (hx : vw E x = .v (.val v)) (hg : get E m = .heap fr v bs e sz bys es) (hk : vInt E j = some k) (h0 : 0 ≤ k) (h1 : k < es.length) : Gives P ok B E a w (.indexAddr t y i) (.gp m k.toNat 0) := by
  simp only [chk, Bool.and_eq_true] at hc
  obtain ⟨⟨hm, hmi⟩, hc⟩ := hc
  split at hc
  case h_2 => exact (Bool.false_ne_true hc).elim
  rename_i e' hel
  have hu := elemT_some hel
  have hsz : szT P e' = some sz := by simpa using hc
  obtain ⟨ki, hi, _⟩ := vInt_ok h hmi hk
  have hs := mx_ok h hm
  rw [hx] at hs
  simp only [SlotOK, Rep] at hs
  unfold szT at hsz
  cases hie : P.info? e' with
  | none => simp [hie] at hsz
  | some ie =>
    have hse : ie.size = sz := by simpa [hie] using hsz
    intro d ty pos af gd
    rcases heap_full h hg with ⟨_, rfl, _⟩ | ⟨g, cap, cur, fs, hv, _⟩
    · simp at h1; omega
    · have hy : a.eval y = .slice (some ⟨g, 0, none⟩) es.length cap := hs.1.trans hv
      refine ⟨.pointer (some ⟨g, k.toNat * sz, none⟩), ?_, g, es.length, cap, fr, v, bs, e, sz, bys, es, hg, hv, by simp, by omega⟩
      simp [execOp, hy, hi, Instr.indexAt, asIntOf, run_underlying hu, sizeOf, typeInfo, hie, hse, addr_add, h0, h1]
theorem gives_fldH {t : TypeId} {y : Operand} {f : Nat} {x : X} {off m i o : Nat} (h : InvO ok N B w0 E a w) (hc : chk P (.fieldAddr t y f) (.fld x off) = true) (hx : vw E x = .gp m i o) : Gives P ok B E a w (.fieldAddr t y f) (.gp m i (o + off)) := by
  simp only [chk, Bool.and_eq_true] at hc
  obtain ⟨hm, hc⟩ := hc
  split at hc
  case h_2 => exact (Bool.false_ne_true hc).elim
  rename_i fs hu
  split at hc
  case h_2 => exact (Bool.false_ne_true hc).elim
  rename_i fd hfd
  simp only [Bool.and_eq_true, beq_iff_eq] at hc
  obtain ⟨rfl, hz⟩ := hc
  have hs := mx_ok h hm
  rw [hx] at hs
  obtain ⟨b, len, cap, fr, v0, bs, e, sz, bys, es, h1, h2, h3, h4⟩ := hs
  intro d ty pos af gd
  refine ⟨.pointer (some ⟨b, i * sz + (o + fd.offset), none⟩), ?_, b, len, cap, fr, v0, bs, e, sz, bys, es, h1, h2, rfl, h4⟩
  cases hi : P.info? fd.type with
  | none => simp [hi] at hz
  | some info =>
    have hz' : info.size ≠ 0 := by simpa [hi] using hz
    simp [execOp, h3, Instr.fieldAt, run_underlying hu, hfd, Instr.sureAddr, fieldPlace, sizeOf, typeInfo, hi, hz', addr_add, Nat.add_assoc]
theorem heap_cell {m i o : Nat} {fr : Bool} {v : Value} {bs : List Nat} {e sz bys : Nat} {es : List (List DV)} {u : Value} {d : DV} (h : InvO ok N B w0 E a w) (hs : SlotOK B ok w a E (.gp m i o) u) (hg : get E m = .heap fr v bs e sz bys es) (hd : (es.getD i [])[o]? = some d) (hf : d.flat = true) :
    ∃ b x, u = .pointer (some ⟨b, i * sz + o, none⟩) ∧ w.cell? ⟨b, i * sz + o, none⟩ = some x ∧ Rep ok w d x := by
  obtain ⟨b, len, cap, fr', v0, bs', e', sz', bys', es', h1, h2, h3, h4⟩ := hs
  rw [hg] at h1
  simp only [Slot.heap.injEq] at h1
  obtain ⟨rfl, rfl, rfl, rfl, rfl, rfl, rfl⟩ := h1
  rcases heap_full h hg with ⟨h5, rfl, _⟩ | ⟨g, cap', cur, fs, hv, hh, hl, hm, hsz, hb, hx⟩
  · simp at h4
  · rw [h2] at hv
    simp only [Value.slice.injEq, Option.some.injEq, Addr.mk.injEq, and_true] at hv
    obtain ⟨rfl, _⟩ := hv
    obtain ⟨hrl, f1, hrow, _⟩ := xrows_get hx h4
    obtain ⟨x, f, hx1, hx2, _⟩ := xrow_get hrow hd
    refine ⟨b, x, h3, ?_, ((xrep_flat hf).1 hx2).2⟩
    rw [cell_off hh]
    rw [List.getElem?_drop] at hx1
    simpa using hx1
theorem gives_ldH {t : TypeId} {y : Operand} {x : X} {m i o : Nat} {fr : Bool} {v : Value} {bs : List Nat} {e sz bys : Nat} {es : List (List DV)} {d : DV} (h : InvO ok N B w0 E a w) (hc : chk P (.load t y) (.ld x) = true) (hx : vw E x = .gp m i o) (hg : get E m = .heap fr v bs e sz bys es)
    (hd : (es.getD i [])[o]? = some d) (hf : d.flat = true) : Gives P ok B E a w (.load t y) (.v d) := by
  simp only [chk, Bool.and_eq_true] at hc
  obtain ⟨hm, hsc⟩ := hc
  have hs := mx_ok h hm
  rw [hx] at hs
  obtain ⟨b, u, h1, h2, h3⟩ := heap_cell h hs hg hd hf
  intro d' ty pos af gd
  exact ⟨u, by simp [execOp, h1, Instr.loadAt, Instr.sureAddr, run_lds hsc h2], h3⟩
theorem heap_len {m : Nat} {fr : Bool} {v : Value} {bs : List Nat} {e sz bys : Nat} {es : List (List DV)} (h : InvO ok N B w0 E a w) (hg : get E m = .heap fr v bs e sz bys es) : ∃ ad cap, v = .slice ad es.length cap := by
  rcases heap_full h hg with ⟨h5, rfl, _⟩ | ⟨g, cap', cur, fs, hv, _⟩
  · exact ⟨none, 0, h5⟩
  · exact ⟨_, _, hv⟩
theorem inv_sto_heap {m i o g cap e sz bys : Nat} {fr : Bool} {v u : Value} {bs fs : List Nat} {es : List (List DV)} {cur : Array Value} {d0 d : DV} (h : InvO ok N B w0 E a w) (hg : get E m = .heap fr v bs e sz bys es)
    (hv : v = .slice (some ⟨g, 0, none⟩) es.length cap) (hh : w.heap[g]? = some (.cells cur e (0, 0))) (hl : es.length ≤ cap) (hm : cap ≤ maxLen) (hsz : cur.size = cap * sz) (hb : bs = g :: fs) (hx : XRows ok w sz es cur.toList fs)
    (hi : i < es.length) (hd : (es.getD i [])[o]? = some d0) (h0 : d0.flat = true) (h1 : d.flat = true) (hr : Rep ok w d u) :
    InvO ok N B w0 ((m, .heap fr v bs e sz bys (es.set i ((es.getD i []).set o d))) :: E) a (w.setRow g (cur.toList.set (i * sz + o) u).toArray) := by
  have hs := h.slot m
  rw [hg] at hs
  obtain ⟨_, hnd, hall⟩ := hs
  have hgb : g ∈ bs := by rw [hb]; simp
  have hG := hall g hgb
  have hc := setRow_changed w g (cur.toList.set (i * sz + o) u).toArray
  have hk := hc.keeps h.okLt hG.1
  refine h.upd hc (hG.2.1.imp_right (·.2)) hG.1 (by rw [hg]; exact hgb) ?_ (.inr (.inr ⟨_, _, _, _, _, _, _, _, hg, rfl, by simp⟩))
  refine ⟨?_, hnd, fun b hb' => ⟨(hall b hb').1, (hall b hb').2.1, Nat.lt_of_lt_of_le (hall b hb').2.2 hc.size⟩⟩
  simp only [XRep]
  refine .inr ⟨g, cap, _, fs, by simpa using hv, setRow_heap w g cur _ e _ hh, by simpa using hl, hm, by simpa using hsz, hb, ?_⟩
  have hx2 := xrows_set hx hi hd h0 h1 hr
  have : XRows ok (w.setRow g (cur.toList.set (i * sz + o) u).toArray) sz (es.set i ((es.getD i []).set o d)) (cur.toList.set (i * sz + o) u) fs := by
    refine XRows.mono hk _ _ _ (fun b hb' => setRow_other w g b _ (fun e => ?_)) hx2
    subst e
    rw [hb] at hnd
    exact (List.nodup_cons.1 hnd).1 hb'
  simpa using this
theorem done_stoH {o' : Oper} {t : TypeId} {y z : Operand} {ad x : X} {m i o : Nat} {fr : Bool} {v : Value} {bs : List Nat} {e sz bys : Nat} {es : List (List DV)} {d0 d : DV} (h : InvO ok N B w0 E a w) (ho : o'.op = .store t y z) (hm : mx y ad = true) (hm' : mx z x = true) (hdst : o'.dst = none) (hsz : szT P t = some 1)
    (ha : vw E ad = .gp m i o) (hg : get E m = .heap fr v bs e sz bys es) (hx : vw E x = .v d) (hd : (es.getD i [])[o]? = some d0) (h0 : d0.flat = true) (h1 : d.flat = true) :
    Done P ok N B w0 a w o' ((m, .heap fr v bs e sz bys (es.set i ((es.getD i []).set o d))) :: E) := by
  have hpy := mx_ok h hm
  have hpz := mx_ok h hm'
  rw [ha] at hpy
  rw [hx] at hpz
  obtain ⟨b, len, cap0, fr', v0, bs', e', sz', bys', es', g1, g2, g3, g4⟩ := hpy
  rw [hg] at g1
  simp only [Slot.heap.injEq] at g1
  obtain ⟨rfl, rfl, rfl, rfl, rfl, rfl, rfl⟩ := g1
  rcases heap_full h hg with ⟨h5, rfl, _⟩ | ⟨g, cap, cur, fs, hv, hh, hl, hmx, hcs, hb, hxr⟩
  · simp at g4
  · have hv' := hv
    rw [g2] at hv'
    simp only [Value.slice.injEq, Option.some.injEq, Addr.mk.injEq, and_true] at hv'
    obtain ⟨rfl, _⟩ := hv'
    have hrl := (xrows_get hxr g4).1
    have ho' : o < sz := by rw [← hrl]; exact (List.getElem?_eq_some_iff.1 hd).1
    have hle : i * sz + sz ≤ es.length * sz := by have := Nat.mul_le_mul_right sz (show i + 1 ≤ es.length from g4); rw [Nat.add_mul, Nat.one_mul] at this; exact this
    have hle2 : es.length * sz ≤ cap * sz := Nat.mul_le_mul_right sz hl
    have hzc : (a.eval z).cells = #[a.eval z] := rep_cells hpz
    have hrun : (execOp a.eval o').run P w = .ok .skip (w.setRow b (cur.toList.take (i * sz + o) ++ (a.eval z).cells.toList ++ cur.toList.drop (i * sz + o + (a.eval z).cells.size)).toArray) := by
      have hst := storeVar_run (P := P) (w := w) (t := t) (b := b) (o := i * sz + o) (v := a.eval z) (by rw [hzc]; exact hsz) hh (by rw [hzc, hcs]; simp; omega) (by rw [hzc]; intro u hu; simp at hu; subst hu; exact rep_one hpz)
      simp [execOp, ho, g3, Instr.storeAt, Instr.sureAddr, hst]
    refine Done.skip hrun (ok' := ok) (fun _ h => .inl h) ?_
    rw [hdst]
    have e2 : (cur.toList.take (i * sz + o) ++ (a.eval z).cells.toList ++ cur.toList.drop (i * sz + o + (a.eval z).cells.size)) = cur.toList.set (i * sz + o) (a.eval z) := by
      rw [hzc, take_set_drop _ _ _ (by simp; omega)]; rfl
    rw [e2]
    exact inv_sto_heap h hg hv hh hl hmx hcs hb hxr g4 hd h0 h1 hpz
theorem InvO.frame {ok' D : Nat → Prop} {w' : World} (h : InvO ok N B w0 E a w) (hw : BelowL ⟨w.heap.size, D⟩ w w') (hx : OkExt ok ok' w w') (hD : ∀ b, D b → ¬ ok b ∧ B.has b) (hE : ∀ n b, blkP (get E n) (tm a n) b → ¬ D b) : InvO ok' N B w0 E a w' where
  size := h.size
  defers := h.defers
  below := h.below.trans ⟨hw.os, hw.tape, hw.output, hw.size, fun k hk hl => hw.block k (Nat.lt_of_lt_of_le hk h.base) (fun hd => (hD k hd).2.elim (fun h => by omega) hl)⟩
  base := Nat.le_trans h.base hw.size
  okLt := hx.lt
  slot n := by
    have hk : Keeps ok ok' w w' := fun b hb => ⟨hx.up b hb, fun o => World.cell?_of_block (w := w) (a := ⟨b, o, none⟩) (hw.block b (h.okLt b hb) (fun hd => (hD b hd).1 hb))⟩
    have hs := h.slot n
    have he := hE n
    have hnew : ∀ b, b < w.heap.size → ¬ ok b → ¬ ok' b := fun b hb hno hok => (hx.new b hok).elim hno (fun h => by omega)
    revert hs he
    generalize get E n = s
    intro hs he
    cases s with
    | undef => trivial
    | v d => exact Rep.mono hk d _ hs
    | agg ds => exact AggRep.mono hk hs
    | tup rs =>
      obtain ⟨vs, hv, hr⟩ := hs
      exact ⟨vs, hv, hr.mono (fun _ _ h => RVOK'.mono hk h)⟩
    | own e sz bys es =>
      have hs' := hs
      obtain ⟨_, xs, ho, _, hn⟩ := hs'
      exact OwnRep.keep hs hk (fun b hb => hw.block b (ownBlk_lt ho hb).2 (he b (by simpa [blkP] using hb))) (fun b hb => hnew b (ownBlk_lt ho hb).2 (hn b hb))
    | box ds =>
      obtain ⟨b, cs, t, hv, hB, hno, hh, hr⟩ := hs
      have hbl : b < w.heap.size := (Array.getElem?_eq_some_iff.1 hh).1
      exact ⟨b, cs, t, hv, hB, hnew b hbl hno, by rw [hw.block b hbl (he b (by rw [hv]; rfl))]; exact hh, hr.mono (fun d v => Rep.mono hk d v)⟩
    | al n => exact hs
    | ref n o => exact hs
    | oel n i o => exact hs
    | row ds =>
      obtain ⟨b, o, hv, hb', hr⟩ := hs
      exact ⟨b, o, hv, hx.up b hb', RepRow.mono hk b hb' ds o hr⟩
    | clo f caps => exact CloOK.mono hk hs
    | ub pt pf => exact hs
    | skp => exact hs
    | heap fr v0 bs e sz bys es =>
      obtain ⟨h1, h2, h3⟩ := hs
      exact ⟨XRep.mono hk _ _ _ (fun b hb => hw.block b (h3 b hb).2.2 (he b hb)) h1, h2, fun b hb => ⟨hnew b (h3 b hb).2.2 (h3 b hb).1, (h3 b hb).2.1, Nat.lt_of_lt_of_le (h3 b hb).2.2 hw.size⟩⟩
    | gp m i o => exact hs
    | hold b o =>
      obtain ⟨h1, h2, h3⟩ := hs
      have hbl : b < w.heap.size := (Array.getElem?_eq_some_iff.1 h1).1
      exact ⟨by rw [hw.block b hbl (he b rfl)]; exact h1, hnew b hbl h2, h3⟩
  apart := h.apart
theorem InvO.addName {m : Nat} {s : Slot} (h : InvO ok N B w0 E a w) (hm : get E m = .undef) (hs : ∀ a' : Act, SlotOK B ok w a' ((m, s) :: E) s (tm a m)) (hp : ∀ n, s.points n = false) (hb : ∀ b, blkP s (tm a m) b → ∀ n, ¬ blkP (get E n) (tm a n) b) : InvO ok N B w0 ((m, s) :: E) a w where
  size := h.size
  defers := h.defers
  below := h.below
  base := h.base
  okLt := h.okLt
  slot n := by
    by_cases hn : m = n
    · subst hn; simp only [get, if_true]; exact hs a
    · simp only [get, if_neg hn]
      have hsl := h.slot n
      have hx : ∀ k, (get E n).points k = true → k ≠ m := fun k hk e => by
        subst e
        have := points_excl hk hsl
        rw [hm] at this; simp [Slot.excl] at this
      revert hsl hx
      generalize get E n = q
      intro hsl hx
      cases q with
      | al k =>
        have hk := hx k (by simp [Slot.points])
        obtain ⟨h1, h2⟩ := hsl
        exact ⟨h1, by simpa [get, Ne.symm hk] using h2⟩
      | ref k o =>
        have hk := hx k (by simp [Slot.points])
        obtain ⟨b, ds, h1, h2, h3⟩ := hsl
        exact ⟨b, ds, h1, h2, by simpa [get, Ne.symm hk] using h3⟩
      | oel k i o =>
        have hk := hx k (by simp [Slot.points])
        obtain ⟨b, len, cap, e', sz', bys', es', h2, h3, h4, h5⟩ := hsl
        exact ⟨b, len, cap, e', sz', bys', es', h2, h3, by simpa [get, Ne.symm hk] using h4, h5⟩
      | gp k i o =>
        have hk := hx k (by simp [Slot.points])
        obtain ⟨b, len, cap, fr, v0, bs, e', sz', bys', es', h2, h3, h4, h5⟩ := hsl
        exact ⟨b, len, cap, fr, v0, bs, e', sz', bys', es', by simpa [get, Ne.symm hk] using h2, h3, h4, h5⟩
      | _ => exact hsl
  apart n k b h1 h2 := by
    by_cases hn : m = n <;> by_cases hk : m = k
    · rw [← hn, ← hk]
    · subst hn
      simp only [get, if_true, if_neg hk] at h1 h2
      exact absurd h2 (hb b h1 k)
    · subst hk
      simp only [get, if_true, if_neg hn] at h1 h2
      exact absurd h1 (hb b h2 n)
    · simp only [get, if_neg hn, if_neg hk] at h1 h2
      exact h.apart n k b h1 h2
end
end Go.Rd

namespace Go.Rd
open Go.RowKit
theorem all2_flat {ok : Nat → Prop} {w : World} : ∀ {ds : List DV} {vs : List Value}, All2 (Rep ok w) ds vs → ∀ d ∈ ds, d.flat = true
  | [], _, _, d, hd => by simp at hd
  | _ :: _, [], h, _, _ => h.elim
  | e :: ds, v :: vs, h, d, hd => by
    rcases List.mem_cons.1 hd with rfl | hd
    · cases d <;> first | rfl | (simp [All2, Rep] at h)
    · exact all2_flat h.2 d hd
section
variable {P : Program} {ok : Nat → Prop} {N : Nat} {B : Bd} {w0 : World} {E : Env} {a : Act} {w : World}
theorem get_drop1_undef {n m : Nat} (h : get E m = .undef) : get (drop1 n E) m = .undef := by
  rw [get_drop1]; split <;> simp [h]
theorem gh_name {d m e sz bys : Nat} {es : List (List DV)} (hg : get E d = .own e sz bys es) (hm : get E m = .undef) : Ghost E (fun u => (d, .v (.val (u.1 0))) :: (m, .heap true (u.1 0) (u.2 0) e sz bys es) :: drop1 d E) := by
  intro ok N B w0 a w hI
  have hdm : d ≠ m := fun e => by subst e; rw [hg] at hm; simp at hm
  have hs := hI.slot d
  rw [hg] at hs
  have hs' : OwnRep B.n ok w e sz es (tm a d) := hs
  have h1 := hI.forget1 d
  have hd0 : get (drop1 d E) d = .undef := by rw [get_drop1, if_pos (.inl rfl)]
  obtain ⟨bs, hx, hnd, hall, hsl, hbs⟩ : ∃ bs : List Nat, XRep ok w (.own e sz bys es) (tm a d) bs ∧ bs.Nodup ∧ (∀ b ∈ bs, ¬ ok b ∧ B.n ≤ b ∧ b < w.heap.size) ∧ (∃ q n c, tm a d = .slice q n c) ∧ ∀ b ∈ bs, ownBlk (tm a d) = some b := by
    rcases own_full hs' with ⟨h2, h3⟩ | ⟨g, cap, cur, h2, hB, hh, hc, hcm, hcs, hno, hr⟩
    · exact ⟨[], by simp only [XRep]; exact .inl ⟨h2, h3, trivial⟩, by simp, by simp, ⟨_, _, _, h2⟩, by simp⟩
    · have hfl : flatRows es := fun r hr' x hx => all2_flat hr x (List.mem_flatten.2 ⟨r, hr', hx⟩)
      refine ⟨[g], ?_, by simp, fun b hb => ?_, ⟨_, _, _, h2⟩, fun b hb => ?_⟩
      · simp only [XRep]
        refine .inr ⟨g, cap, cur, [], h2, hh, hc, hcm, hcs, rfl, xrows_of hfl hs'.1 ?_ hr⟩
        have := Nat.mul_le_mul_right sz hc
        simp; omega
      · simp only [List.mem_singleton] at hb; subst hb
        exact ⟨hno, hB, (Array.getElem?_eq_some_iff.1 hh).1⟩
      · simp only [List.mem_singleton] at hb; subst hb; rw [h2]; rfl
  have h2 := h1.addName (m := m) (s := .heap true (tm a d) bs e sz bys es) (get_drop1_undef hm) (fun a' => ⟨hx, hnd, fun b hb => ⟨(hall b hb).1, .inl (hall b hb).2.1, (hall b hb).2.2⟩⟩) (fun _ => rfl) (fun b hb n hn => by
    rw [get_drop1] at hn
    split at hn
    · simp [blkP] at hn
    · rename_i hne
      have := hI.apart d n b (by rw [hg]; exact hbs b hb) hn
      exact hne (.inl this))
  have h3 := h2.addName (m := d) (s := .v (.val (tm a d))) (by simp only [get, if_neg (Ne.symm hdm)]; exact hd0) (fun a' => ?_) (fun _ => rfl) (fun b hb => by simp [blkP] at hb)
  · exact ⟨(fun _ => tm a d, fun _ => bs), ok, h3, fun _ h => .inl h⟩
  · simp only [SlotOK, Rep]; exact ⟨trivial, oneV_sl hsl⟩
theorem gh_un {d m e sz bys : Nat} {v : Value} {bs : List Nat} {es : List (List DV)} (hd : get E d = .v (.val v)) (hg : get E m = .heap true v bs e sz bys es) (hf : flatRows es) : Ghost E (fun _ => (d, .own e sz bys es) :: drop1 d (drop1 m E)) := by
  intro ok N B w0 a w hI
  have hdm : d ≠ m := fun e => by subst e; rw [hg] at hd; simp at hd
  have hs := hI.slot m
  rw [hg] at hs
  have hv := hI.slot d
  rw [hd] at hv
  simp only [SlotOK, Rep] at hv
  obtain ⟨_, hnd, hall⟩ := hs
  have h1 := (hI.forget1 m).forget1 d
  refine ⟨(fun _ => v, fun _ => []), ok, h1.addName (m := d) (by rw [get_drop1, if_pos (.inl rfl)]) (fun a' => ?_) (fun _ => rfl) (fun b hb n hn => ?_), fun _ h => .inl h⟩
  · rw [hv.1]
    show OwnRep B.n ok w e sz es v
    rcases heap_full hI hg with ⟨h2, rfl, _⟩ | ⟨g, cap, cur, fs, h2, hh, hl, hmx, hcs, hb, hx⟩
    · refine ⟨by simp, [], ?_, by simp [All2], fun b hb => by rw [h2] at hb; simp [ownBlk] at hb⟩
      rw [h2]; exact World.ownsRow_nil _ _ _ _
    · obtain ⟨rfl, hrl, hrep⟩ := xrows_flat hf hx
      have hle := Nat.mul_le_mul_right sz hl
      have hG := hall g (by rw [hb]; simp)
      refine ⟨hrl, cur.toList.take (es.length * sz), ⟨by simp; omega, .inr ⟨g, cap, cur, h2, hG.2.1.elim id (fun h => by simp at h), hh, hl, hmx, hcs, rfl⟩⟩, hrep, fun b hb' => ?_⟩
      rw [h2] at hb'
      have : g = b := by simpa [ownBlk] using hb'
      subst this; exact hG.1
  · rw [hv.1] at hb
    have hbm : b ∈ bs := by
      rcases heap_full hI hg with ⟨h2, _, _⟩ | ⟨g, cap, cur, fs, h2, _, _, _, _, hb2, _⟩
      · rw [h2] at hb; simp [blkP, ownBlk] at hb
      · rw [h2] at hb
        have : g = b := by simpa [blkP, ownBlk] using hb
        subst this; rw [hb2]; simp
    rw [get_drop1] at hn
    split at hn
    · simp [blkP] at hn
    · rw [get_drop1] at hn
      split at hn
      · simp [blkP] at hn
      · rename_i hne
        exact hne (.inl (hI.apart m n b (by rw [hg]; exact hbm) hn))
theorem sem_gives {d : Nat} {op : AOp} {s : Slot} (hp : okPut d s E = true) (hx : s.excl = false) (h : ∀ (ok : Nat → Prop) (N : Nat) (B : Bd) (w0 : World) (a : Act) (w : World) (o : Op), InvO ok N B w0 E a w → chkOp P o op = true → Gives P ok B E a w o s) :
    SemStep P (some d) op E (fun _ => (d, s) :: E) :=
  fun ok N B w0 a w o hI hd hdN hc K Q hK => done_of_gives hI hd (hdN d rfl) hp hx (h ok N B w0 a w o.op hI hc) K Q (hK (fun _ => .bool false, fun _ => []))
theorem sem_idxH {d sz m : Nat} {x j : X} {ki : IntKind} {k : Int} {fr : Bool} {v : Value} {bs : List Nat} {e bys : Nat} {es : List (List DV)} (hx : vw E x = .v (.val v)) (hg : get E m = .heap fr v bs e sz bys es) (hk : vw E j = .v (.int ki k)) (h0 : 0 ≤ k) (h1 : k < es.length)
    (hp : okPut d (.gp m k.toNat 0) E = true) : SemStep P (some d) (.idx sz x j) E (fun _ => (d, .gp m k.toNat 0) :: E) := by
  refine sem_gives hp rfl (fun ok N B w0 a w o hI hc => ?_)
  cases o <;> try (simp [chkOp, chk] at hc; done)
  case call c => rcases not_call_chk hc with ⟨_, h⟩ | ⟨_, h⟩ | ⟨_, _, h⟩ | ⟨_, _, h⟩ | ⟨_, _, _, _, _, h⟩ | ⟨_, _, h⟩ | ⟨_, _, _, h⟩ <;> simp at h
  case indexAddr t y i => exact gives_idxH hI (by simpa [chkOp] using hc) hx hg (by simp only [vInt, hk]) h0 h1
theorem sem_fldH {d off m i o : Nat} {x : X} (hx : vw E x = .gp m i o) (hp : okPut d (.gp m i (o + off)) E = true) : SemStep P (some d) (.fld x off) E (fun _ => (d, .gp m i (o + off)) :: E) := by
  refine sem_gives hp rfl (fun ok N B w0 a w op hI hc => ?_)
  cases op <;> try (simp [chkOp, chk] at hc; done)
  case call c => rcases not_call_chk hc with ⟨_, h⟩ | ⟨_, h⟩ | ⟨_, _, h⟩ | ⟨_, _, h⟩ | ⟨_, _, _, _, _, h⟩ | ⟨_, _, h⟩ | ⟨_, _, _, h⟩ <;> simp at h
  case fieldAddr t y f => exact gives_fldH hI (by simpa only [chkOp] using hc) hx
theorem sem_ldH {d m i o : Nat} {x : X} {fr : Bool} {v : Value} {bs : List Nat} {e sz bys : Nat} {es : List (List DV)} {dv : DV} (hx : vw E x = .gp m i o) (hg : get E m = .heap fr v bs e sz bys es) (hd : (es.getD i [])[o]? = some dv) (hf : dv.flat = true)
    (hp : okPut d (.v dv) E = true) : SemStep P (some d) (.ld x) E (fun _ => (d, .v dv) :: E) := by
  refine sem_gives hp rfl (fun ok N B w0 a w op hI hc => ?_)
  cases op <;> try (simp [chkOp, chk] at hc; done)
  case call c => rcases not_call_chk hc with ⟨_, h⟩ | ⟨_, h⟩ | ⟨_, _, h⟩ | ⟨_, _, h⟩ | ⟨_, _, _, _, _, h⟩ | ⟨_, _, h⟩ | ⟨_, _, _, h⟩ <;> simp at h
  case load t y => exact gives_ldH hI (by simpa only [chkOp] using hc) hx hg hd hf
theorem sem_stoH {m i o : Nat} {ad x : X} {fr : Bool} {v : Value} {bs : List Nat} {e sz bys : Nat} {es : List (List DV)} {d0 d : DV} (ha : vw E ad = .gp m i o) (hg : get E m = .heap fr v bs e sz bys es) (hx : vw E x = .v d) (hd : (es.getD i [])[o]? = some d0) (h0 : d0.flat = true) (h1 : d.flat = true) :
    SemStep P none (.sto 1 ad x) E (fun _ => (m, .heap fr v bs e sz bys (es.set i ((es.getD i []).set o d))) :: E) := by
  intro ok N B w0 a w o' hI hdst hdN hc K Q hK
  generalize hop : o'.op = op at hc
  cases op <;> try (simp [chkOp, chk] at hc; done)
  case call c => rcases not_call_chk hc with ⟨_, h⟩ | ⟨_, h⟩ | ⟨_, _, h⟩ | ⟨_, _, h⟩ | ⟨_, _, _, _, _, h⟩ | ⟨_, _, h⟩ | ⟨_, _, _, h⟩ <;> simp at h
  case store t y z =>
    simp only [chkOp, Bool.and_eq_true, beq_iff_eq] at hc
    exact done_stoH hI hop hc.1.1 hc.1.2 hdst hc.2 ha hg hx hd h0 h1 K Q (hK (fun _ => .bool false, fun _ => []))
def CallsL (P : Program) (f : FuncId) (e sz bys : Nat) (es es' : List (List DV)) (args : Value → List AV) (res : Value → List RV) : Prop :=
  ∀ (ok : Nat → Prop) (w : World) (vs : Array Value) (v : Value) (bs : List Nat), (∀ b, ok b → b < w.heap.size) → All2 (ArgOK ok w) (args v) vs.toList →
    XRep ok w (.own e sz bys es) v bs → bs.Nodup → (∀ b ∈ bs, ¬ ok b ∧ b < w.heap.size) →
    Calls P f vs w fun x w' => ∃ r ok' bs', x = .returned r ∧ BelowL ⟨w.heap.size, fun b => b ∈ bs⟩ w w' ∧ OkExt ok ok' w w' ∧ ResOK w.heap.size ok' w' (res v) r ∧
      XRep ok' w' (.own e sz bys es') v bs' ∧ bs'.Nodup ∧ ∀ b ∈ bs', ¬ ok' b ∧ b < w'.heap.size ∧ (w.heap.size ≤ b ∨ b ∈ bs)
def noOwn : List RV → Bool := fun rs => rs.all fun | .own .. => false | _ => true
theorem resSlot_ok {B0 : Nat} {B' : Bd} {rs : List RV} {s : Slot} {r : Value} (hs : resSlot rs = some s) (hn : noOwn rs = true) (h : ResOK B0 ok w rs r) : ∀ (a : Act) (E : Env), SlotOK B' ok w a E s r := by
  intro a E
  unfold resSlot at hs
  split at hs
  · simp only [Option.some.injEq] at hs; subst hs; exact h
  · simp only [Option.some.injEq] at hs; subst hs; exact h
  · simp [noOwn] at hn
  · rename_i h1 h2 h3
    split at hs
    case isFalse => simp at hs
    rename_i hall
    simp only [Option.some.injEq] at hs; subst hs
    have hr' : ∃ vs : Array Value, r = .tuple vs ∧ All2 (RVOK B0 ok w) rs vs.toList := by
      match rs, h, h1, h2, h3 with
      | [], hr, _, _, _ => exact hr
      | [.v d], _, h1, _, _ => exact absurd rfl (h1 d)
      | [.agg ds], _, _, h2, _ => exact absurd rfl (h2 ds)
      | [.own e sz bys es], _, _, _, h3 => exact absurd rfl (h3 e sz bys es)
      | r :: r' :: rs, hr, _, _, _ => exact hr
    obtain ⟨vs, h4, h5⟩ := hr'
    exact ⟨vs, h4, rvok_tup hall h5⟩
theorem callL_core {c : Call} {o : Oper} {f : FuncId} {xs : List X} {args : Value → List AV} {res : Value → List RV} {m e sz bys : Nat} {fr : Bool} {v : Value} {bs : List Nat} {es es' : List (List DV)} (hI : InvO ok N B w0 E a w) (ho : o.op = .call c) (hc : c.callee = .value (.func f)) (hf : callable P f = true)
    (hm : mxs c.args.toList xs = true) (hg : get E m = .heap fr v bs e sz bys es) (hOK : CallsL P f e sz bys es es' args res) (hav : argsV E xs = some (args v)) (hpure : argsPure E xs = true) (K : Act → World → Prop) (Q : Exit → Act → World → Prop)
    (hK : ∀ r w' ok' bs', OkExt ok ok' w w' → InvO ok' N B w0 ((m, .heap fr v bs' e sz bys es') :: drop1 m E) a w' → ResOK w.heap.size ok' w' (res v) r → K (a.put o.dst r) w') : o.wp P a w K Q := by
  unfold callable at hf
  split at hf
  case h_2 => exact (Bool.false_ne_true hf).elim
  rename_i fn hfn
  simp only [Bool.and_eq_true, bne_iff_ne, Option.isSome_iff_exists] at hf
  obtain ⟨hname, body, hbody⟩ := hf
  have hrun : (execOp a.eval o).run P w = .ok (.enter f (c.args.map a.eval)) w := by
    simp [execOp, ho, resolve, hc, Act.eval, Deferred.ofValue, invoke, callFunc, hfn, hname, hbody]
  unfold Oper.wp
  rw [hrun, Oper.upon_enter]
  have hargs := argsV_pure hI hm hav hpure
  have hs := hI.slot m
  rw [hg] at hs
  obtain ⟨hx, hnd, hall⟩ := hs
  refine (hOK ok w (c.args.map a.eval) v bs hI.okLt (by simpa using hargs) hx hnd (fun b hb => ⟨(hall b hb).1, (hall b hb).2.2⟩)).mono ?_
  rintro x w' ⟨r, ok', bs', rfl, hb, hext, hr, hx', hnd', hall'⟩
  refine hK r w' ok' bs' hext ?_ hr
  have h1 := hI.forget1 m
  have h2 := h1.frame (D := fun b => b ∈ bs) hb hext (fun b hb => ⟨(hall b hb).1, (hall b hb).2.1.imp_right (·.2)⟩) (fun n b hn hd => by
    rw [get_drop1] at hn
    split at hn
    · simp [blkP] at hn
    · rename_i hne
      exact hne (.inl (hI.apart m n b (by rw [hg]; exact hd) hn)))
  refine h2.addName (by rw [get_drop1, if_pos (.inl rfl)]) (fun a' => ⟨hx', hnd', fun b hb => ⟨(hall' b hb).1, ?_, (hall' b hb).2.1⟩⟩) (fun _ => rfl) (fun b hb n hn => ?_)
  · rcases (hall' b hb).2.2 with h | h
    · exact .inl (Nat.le_trans hI.base h)
    · exact (hall b h).2.1
  · rcases (hall' b hb).2.2 with h | h
    · have := (blk_lt h1 hn).2.1; omega
    · rw [get_drop1] at hn
      split at hn
      · simp [blkP] at hn
      · rename_i hne
        exact hne (.inl (hI.apart m n b (by rw [hg]; exact h) hn))
theorem sem_callL {d : Nat} {s : Slot} {f : FuncId} {xs : List X} {args : Value → List AV} {res : Value → List RV} {m e sz bys : Nat} {fr : Bool} {v : Value} {bs : List Nat} {es es' : List (List DV)} (hOK : CallsL P f e sz bys es es' args res) (hg : get E m = .heap fr v bs e sz bys es)
    (hav : argsV E xs = some (args v)) (hpure : argsPure E xs = true) (hs : resSlot (res v) = some s) (hn : noOwn (res v) = true) (hp : okPut d s E = true) (hdm : d ≠ m) : SemStep P (some d) (.call f xs) E (fun u => (d, s) :: (m, .heap fr v (u.2 0) e sz bys es') :: drop1 m E) := by
  intro ok N B w0 a w o hI hdst hdN hc K Q hK
  obtain ⟨c, hop, hcal, hcb, hm⟩ := chk_call hc
  refine callL_core hI hop hcal hcb hm hg hOK hav hpure K Q (fun r w' ok' bs' hext hI' hr => hK (fun _ => v, fun _ => bs') ok' _ w' ?_ (fun b hb => (hext.new b hb).imp_right (fun h1 => Nat.le_trans hI.base h1)))
  rw [hdst]
  have hsp := resSlot_excl hs
  refine hI'.put (hdN d rfl) ?_ (resSlot_ok hs hn hr a _) (fun b hb => absurd hb (blkP_none hsp))
  have hnp : ∀ n, s.points n = false := fun n => by
    unfold resSlot at hs
    split at hs <;> first | (simp only [Option.some.injEq] at hs; subst hs; rfl) | (split at hs <;> first | (simp only [Option.some.injEq] at hs; subst hs; rfl) | simp at hs)
  simp only [okPut, Bool.or_eq_true, Bool.not_eq_true', Bool.and_eq_true] at hp ⊢
  have hgd : get ((m, Slot.heap fr v bs' e sz bys es') :: drop1 m E) d = get (drop1 m E) d := by simp [get, Ne.symm hdm]
  rcases hp with hp | ⟨hp, _⟩
  · left
    rw [hgd, get_drop1]
    split
    · rfl
    · exact hp
  · right
    refine ⟨?_, hnp d⟩
    have : ∀ E' : Env, noRefs d E' = true → noRefs d (killRefs m E') = true := by
      intro E'
      induction E' with
      | nil => intro _; rfl
      | cons x E' ih =>
        obtain ⟨k, q⟩ := x
        intro h
        simp only [noRefs, killRefs, Bool.and_eq_true, Bool.not_eq_true'] at h ⊢
        refine ⟨?_, ih h.2⟩
        split
        · rfl
        · exact h.1
    simp [noRefs, drop1, Slot.points, this E hp]
end
end Go.Rd

namespace Go.Rd
open Go.RowKit
section
variable {P : Program} {Q : Env → Prop} {l : List GOp} {keep : List Nat} {k : List It} {E : Env}
theorem mid_sem {dst : Option Nat} {op : AOp} {E1 : Gh → Env} (hs : SemStep P dst op E E1) (hm : ∀ u, Mid 0 P Q l keep k (E1 u)) : Mid 0 P Q (⟨dst, none, op⟩ :: l) keep k E := mid_zero.2 (.run rfl hs (fun u => mid_zero.1 (hm u)))
theorem mid_gh {E1 : Gh → Env} (hg : Ghost E E1) (hm : ∀ u, Mid 0 P Q l keep k (E1 u)) : Mid 0 P Q l keep k E := mid_zero.2 (.gh hg (fun u => mid_zero.1 (hm u)))
theorem run_gh {E1 : Gh → Env} (hg : Ghost E E1) (h : ∀ u, RunQ P Q k (E1 u)) : RunQ P Q k E := .gh hg h
theorem mid_idxH {α : Type} {f : α → List DV} {xs : List α} {d sz m n : Nat} {x j : X} {ki : IntKind} {fr : Bool} {v : Value} {bs : List Nat} {e bys : Nat} (hx : vw E x = .v (.val v)) (hg : get E m = .heap fr v bs e sz bys (xs.map f)) (hk : vw E j = .v (.int ki (n : Int))) (h1 : n < xs.length)
    (hp : okPut d (.gp m n 0) E = true) (hm : Mid 0 P Q l keep k ((d, .gp m n 0) :: E)) : Mid 0 P Q (⟨some d, none, .idx sz x j⟩ :: l) keep k E := by
  refine mid_sem (sem_idxH hx hg hk (by omega) (by simpa using h1) (by simpa using hp)) (fun _ => ?_)
  simpa using hm
theorem mid_fldH {d off m i o : Nat} {x : X} (hx : vw E x = .gp m i o) (hp : okPut d (.gp m i (o + off)) E = true) (hm : Mid 0 P Q l keep k ((d, .gp m i (o + off)) :: E)) : Mid 0 P Q (⟨some d, none, .fld x off⟩ :: l) keep k E :=
  mid_sem (sem_fldH hx hp) (fun _ => hm)
theorem mid_ldH {α : Type} {f : α → List DV} {xs : List α} {d m i o : Nat} {x : X} {fr : Bool} {v : Value} {bs : List Nat} {e sz bys : Nat} {dv : DV} (hx : vw E x = .gp m i o) (hg : get E m = .heap fr v bs e sz bys (xs.map f)) (hi : i < xs.length) (hd : (f xs[i])[o]? = some dv) (hf : dv.flat = true)
    (hp : okPut d (.v dv) E = true) (hm : Mid 0 P Q l keep k ((d, .v dv) :: E)) : Mid 0 P Q (⟨some d, none, .ld x⟩ :: l) keep k E :=
  mid_sem (sem_ldH hx hg (by rw [getD_map f xs hi]; exact hd) hf hp) (fun _ => hm)
theorem mid_stoH {α : Type} {f : α → List DV} {xs : List α} {m i o : Nat} {ad x : X} {fr : Bool} {v : Value} {bs : List Nat} {e sz bys : Nat} {d0 d : DV} {y : α} (ha : vw E ad = .gp m i o) (hg : get E m = .heap fr v bs e sz bys (xs.map f)) (hx : vw E x = .v d) (hi : i < xs.length) (hd : (f xs[i])[o]? = some d0) (h0 : d0.flat = true) (h1 : d.flat = true)
    (hy : (f xs[i]).set o d = f y) (hm : Mid 0 P Q l keep k ((m, .heap fr v bs e sz bys ((xs.set i y).map f)) :: E)) : Mid 0 P Q (⟨none, none, .sto 1 ad x⟩ :: l) keep k E := by
  refine mid_sem (sem_stoH ha hg hx (by rw [getD_map f xs hi]; exact hd) h0 h1) (fun _ => ?_)
  rw [getD_map f xs hi, hy, ← List.map_set]
  exact hm
theorem mid_lenH {d m : Nat} {x : X} {fr : Bool} {v : Value} {bs : List Nat} {e sz bys : Nat} {es : List (List DV)} (hx : vw E x = .v (.val v)) (hg : get E m = .heap fr v bs e sz bys es) (hp : okPut d (.v (.int .i64 es.length)) E = true)
    (hm : Mid 0 P Q l keep k ((d, .v (.int .i64 es.length)) :: E)) : Mid 0 P Q (⟨some d, none, .len x⟩ :: l) keep k E := by
  refine mid_sem (sem_gives hp rfl (fun ok N B w0 a w op hI hc => ?_)) (fun _ => hm)
  obtain ⟨c, hop, h1⟩ : ∃ c, op = .call c ∧ chkOp P (.call c) (.len x) = true := by
    cases op <;> try (simp [chkOp, chk] at hc; done)
    case call c => exact ⟨c, rfl, hc⟩
  subst hop
  obtain ⟨ad, cap, hv⟩ := heap_len hI hg
  simp only [chkOp] at h1
  obtain ⟨callee, args, tys⟩ := c
  cases callee with
  | builtin b =>
    have h2 : chkB P b args.toList tys.toList (.len x) = true := by
      cases b <;> first | exact h1 | (simp only [chkCall] at h1; split at h1 <;> simp_all)
    unfold chkB at h2
    split at h2 <;> try (simp at h2; done)
    case h_2 => rename_i h5; cases h5
    case h_3 => rename_i h5; cases h5
    case h_4 => rename_i h5; cases h5
    rename_i y t x' h3 h4 h5
    have e1 : args = #[y] := by apply Array.toList_inj.1; simpa using h3
    have e2 : tys = #[t] := by apply Array.toList_inj.1; simpa using h4
    simp only [AOp.len.injEq] at h5
    subst e1 e2 h5
    simp only [Bool.and_eq_true, Option.isSome_iff_exists] at h2
    obtain ⟨hmx, e', hel⟩ := h2
    have hu := elemT_some hel
    have hs := mx_ok hI hmx
    rw [hx] at hs
    simp only [SlotOK, Rep] at hs
    intro d ty pos af gd
    have hy := hs.1.trans hv
    exact ⟨.int .i64 es.length, by simp [execOp, resolve, invoke, builtin, Builtin.len_, hy, run_underlying hu, goInt], by simp [SlotOK, Rep]⟩
  | value y => cases y <;> (simp only [chkCall] at h1; first | contradiction | (split at h1 <;> simp_all))
  | _ => simp [chkCall] at h1
end
section
variable {P : Program} {ok : Nat → Prop} {N : Nat} {B : Bd} {w0 : World} {E : Env} {a : Act} {w : World}
def resP (E : Env) : List RX → Option (List RV)
  | [] => some []
  | x :: xs => match resV E x, resP E xs with
    | some (.v d), some rs => some (.v d :: rs)
    | some (.agg ds), some rs => some (.agg ds :: rs)
    | _, _ => none
theorem resP_ok (h : InvO ok N B w0 E a w) : ∀ {rs : List ResultVar} {xs : List RX} {r : List RV}, chkXs P rs xs = true → resP E xs = some r → sizeXs P rs r = true → ∃ vs, (rs.mapM (rvGet P a)).run P w = .ok vs w ∧ All2 (RVOK B.n ok w) r vs
  | [], [], r, _, hr, _ => by simp [resP] at hr; subst hr; exact ⟨[], by simp, trivial⟩
  | [], _ :: _, _, hc, _, _ => by simp [chkXs] at hc
  | _ :: _, [], _, hc, _, _ => by simp [chkXs] at hc
  | q :: rs, x :: xs, r, hc, hr, hs => by
    simp only [chkXs, Bool.and_eq_true] at hc
    simp only [resP] at hr
    split at hr
    · rename_i d rs' h1 h2
      simp only [Option.some.injEq] at hr; subst hr
      simp only [sizeXs, Bool.and_eq_true] at hs
      obtain ⟨v, h3, h4, _⟩ := resV_ok h hc.1 h1 hs.1
      obtain ⟨vs, h5, h6⟩ := resP_ok h hc.2 h2 hs.2
      exact ⟨v :: vs, by simp [List.mapM_cons, h3, h5], h4, h6⟩
    · rename_i ds rs' h1 h2
      simp only [Option.some.injEq] at hr; subst hr
      simp only [sizeXs, Bool.and_eq_true] at hs
      obtain ⟨v, h3, h4, _⟩ := resV_ok h hc.1 h1 hs.1
      obtain ⟨vs, h5, h6⟩ := resP_ok h hc.2 h2 hs.2
      exact ⟨v :: vs, by simp [List.mapM_cons, h3, h5], h4, h6⟩
    · simp at hr
theorem callsL_of_run {f : FuncId} {fn : Func} {c : CC} {rx : List RX} {args : Value → List AV} {res : Value → List RV} {e sz bys : Nat} {es es' : List (List DV)} (hf : P.funcs[f]? = some fn) (hc : chkF P fn c rx = true)
    (hs : ∀ v, sizeXs P fn.results.toList (res v) = true) (hn : ∀ v, (args v).length ≤ fn.ntmps ∧ (args v).length ≤ 1000)
    (hrun : ∀ v bs, RunQ P (fun E => resP E rx = some (res v) ∧ ∃ bs', get E 1000 = .heap false v bs' e sz bys es') [.code c] ((1000, .heap false v bs e sz bys es) :: argEnv (args v) 0)) : CallsL P f e sz bys es es' args res := by
  unfold chkF at hc
  split at hc
  case h_2 => exact (Bool.false_ne_true hc).elim
  rename_i C hb
  simp only [Bool.and_eq_true] at hc
  intro ok w vs v bs hlt ha hx hnd hall cs
  have h0 := entry_ok (N := fn.ntmps) hlt ha (hn v).1
  have h0' : InvO ok fn.ntmps ⟨w.heap.size, fun b => b ∈ bs⟩ w (argEnv (args v) 0) { tmps := vs ++ Array.replicate (fn.ntmps - vs.size) undef, defers := [] } w :=
    ⟨h0.size, h0.defers, BelowL.refl _ _, h0.base, h0.okLt, fun n => by
      have hsl := h0.slot n
      have hcase : (get (argEnv (args v) 0) n = .undef) ∨ ∃ av, get (argEnv (args v) 0) n = argSlot av := by
        rw [argEnv_get]
        cases (args v)[n - 0]? with
        | none => left; simp
        | some av => right; exact ⟨av, by simp⟩
      rcases hcase with h | ⟨av, h⟩
      · rw [h]; trivial
      · rw [h] at hsl ⊢
        cases av <;> exact hsl, h0.apart⟩
  have hu : get (argEnv (args v) 0) 1000 = .undef := by
    rw [argEnv_get, List.getElem?_eq_none (by have := (hn v).2; omega)]; rfl
  have hI := h0'.addName (m := 1000) (s := .heap false v bs e sz bys es) hu (fun a' => ⟨hx, hnd, fun b hb => ⟨(hall b hb).1, .inr ⟨rfl, hb⟩, (hall b hb).2⟩⟩) (fun _ => rfl) (fun b hb n hn' => by
    have hcase : (get (argEnv (args v) 0) n = .undef) ∨ ∃ av, get (argEnv (args v) 0) n = argSlot av := by
      rw [argEnv_get]
      cases (args v)[n - 0]? with
      | none => left; simp
      | some av => right; exact ⟨av, by simp⟩
    rcases hcase with h | ⟨av, h⟩
    · rw [h] at hn'; simp [blkP] at hn'
    · rw [h] at hn'; cases av <;> simp [argSlot, blkP] at hn')
  let b : Frame := { (default : Frame) with fn := f, kind := .normal }
  have henter : Frame.enter P f vs .normal = b.at { tmps := vs ++ Array.replicate (fn.ntmps - vs.size) undef, defers := [] } [.code C] := by
    simp [Frame.enter, Frame.at, hf, hb, b]
  obtain ⟨E', ok', a', w', todo, h1, h2, ⟨h3, bs', hg⟩, h4⟩ := run_ok (b := b) (cs := cs) (hrun v bs) hI (K := [.code C]) ⟨hc.1, trivial⟩
  rw [← henter] at h4
  obtain ⟨rs, hm, hr⟩ := resP_ok h1 hc.2 h3 (hs v)
  have hres := results_run (P := P) (a := a') (w := w') (fn := fn) hm
  have hsl := h1.slot 1000
  rw [hg] at hsl
  obtain ⟨hx', hnd', hall'⟩ := hsl
  have hsz : w.heap.size ≤ w'.heap.size := h1.below.size
  refine ⟨.returned _, w', _, ⟨_, fun b => ok b ∨ ok' b, bs', rfl, h1.below, ⟨fun b hb => .inl hb, fun b hb => ?_, fun b hb => ?_⟩, ?_, ?_, hnd', fun b hb => ⟨?_, (hall' b hb).2.2, (hall' b hb).2.1.imp_right (·.2)⟩⟩, h4, rfl, rfl, h1.defers, rfl, fn, hf, hres⟩
  · rcases hb with hb | hb
    · exact .inl hb
    · exact h2 b hb
  · rcases hb with hb | hb
    · exact Nat.lt_of_lt_of_le (hlt b hb) hsz
    · exact h1.okLt b hb
  · have hm' : ∀ (rv : RV) (v : Value), RVOK w.heap.size ok' w' rv v → RVOK w.heap.size (fun b => ok b ∨ ok' b) w' rv v := fun rv v hh =>
      rvok_more (fun b hb => .inr hb) (fun b hB hb => hb.elim (fun hb => absurd (hlt b hb) (Nat.not_lt.2 hB)) id) hh
    match hrv : res v, rs, hr with
    | [], [], _ => exact ⟨#[], rfl, trivial⟩
    | [rv], [u], hh => exact hm' rv u hh.1
    | r1 :: r2 :: rs', u1 :: u2 :: us, hh => exact ⟨(u1 :: u2 :: us).toArray, rfl, by simpa using hh.mono hm'⟩
  · exact XRep.mono (fun b hb => ⟨.inr hb, fun _ => rfl⟩) _ _ _ (fun _ _ => rfl) hx'
  · rintro (hb' | hb')
    · rcases (hall' b hb).2.1 with h | h
      · exact absurd (hlt b hb') (Nat.not_lt.2 h)
      · exact (hall b h.2).1 hb'
    · exact (hall' b hb).1 hb'
end
end Go.Rd
namespace Go.Rd
open Go.RowKit
section
variable {P : Program} {Q : Env → Prop} {l : List GOp} {keep : List Nat} {k : List It} {E : Env}
theorem mid_calloL {d : Nat} {s : Slot} {f : FuncId} {xs : List X} {args : Value → List AV} {res : Value → List RV} {m e sz bys : Nat} {fr : Bool} {v : Value} {bs : List Nat} {es es' : List (List DV)} (hOK : CallsL P f e sz bys es es' args res) (hg : get E m = .heap fr v bs e sz bys es)
    (hav : argsV E xs = some (args v)) (hpure : argsPure E xs = true) (hs : resSlot (res v) = some s) (hn : noOwn (res v) = true) (hp : okPut d s E = true) (hdm : d ≠ m) (hm : ∀ bs', Mid 0 P Q l keep k ((d, s) :: (m, .heap fr v bs' e sz bys es') :: drop1 m E)) :
    Mid 0 P Q (⟨some d, none, .callo f xs⟩ :: l) keep k E := by
  refine mid_sem ?_ (fun u => hm (u.2 0))
  intro ok N B w0 a w o hI hdst hdN hc K Q hK
  obtain ⟨c, hop, hcal, hcb, hmx⟩ := chk_callo hc
  have hc' : chkOp P o.op (.call f xs) = true := by
    rw [hop] at hc ⊢
    simp only [chkOp] at hc ⊢
    rw [hcal] at hc ⊢
    simpa [chkCall] using hc
  exact sem_callL hOK hg hav hpure hs hn hp hdm ok N B w0 a w o hI hdst hdN hc' K Q hK
end
end Go.Rd
namespace Go.Rd
open Go.RowKit
section
variable {P : Program} {Q : Env → Prop} {l : List GOp} {keep : List Nat} {k : List It} {E : Env}
theorem mid_idxHn {α : Type} {f : α → List DV} {xs : List α} {d sz m n : Nat} {x j : X} {ki : IntKind} {jz : Int} {fr : Bool} {v : Value} {bs : List Nat} {e bys : Nat} (hx : vw E x = .v (.val v)) (hg : get E m = .heap fr v bs e sz bys (xs.map f)) (hk : vw E j = .v (.int ki jz)) (hj : jz = n) (h1 : n < xs.length)
    (hp : okPut d (.gp m n 0) E = true) (hm : Mid 0 P Q l keep k ((d, .gp m n 0) :: E)) : Mid 0 P Q (⟨some d, none, .idx sz x j⟩ :: l) keep k E := mid_idxH hx hg (by rw [hk, hj]) h1 hp hm
end
end Go.Rd

namespace Go.Rd
open Go.RowKit
def tgt : Slot → List Nat
  | .al m | .ref m _ | .oel m _ _ | .gp m _ _ => [m]
  | _ => []
def tgs (E : Env) (n : Nat) : List Nat := n :: tgt (get E n)
def rdL (E : Env) (ns : List Nat) : List Nat := ns.flatMap (tgs E)
theorem agree_of {E E' : Env} {ns : List Nat} (h : ∀ n ∈ rdL E ns, get E' n = get E n) : ∀ n ∈ ns, Agree E E' n := by
  intro n hn
  refine ⟨h n (List.mem_flatMap.2 ⟨n, hn, by simp [tgs]⟩), fun m hm => h m (List.mem_flatMap.2 ⟨n, hn, ?_⟩)⟩
  simp only [tgs, List.mem_cons]
  right
  cases hs : get E n <;> rw [hs] at hm <;> simp_all [Slot.points, tgt]
def LocO (P : Program) (dst : Option Nat) (op : AOp) (E : Env) (e : TrE) : Prop :=
  ∀ E', (∀ n ∈ e.R, get E' n = get E n) → (∀ n ∈ e.S, noRefs n E' = true) → ∃ E1, (∀ n, get E1 n = get (e.W ++ E') n) ∧ SemStep P dst op E' (fun _ => E1)
section
variable {P : Program} {E : Env} {dst : Option Nat} {op : AOp} {e : TrE}
theorem loc_none (h : LocO P dst op E e) : Loc P ⟨dst, none, op⟩ E e := fun E' h1 h2 => by
  obtain ⟨E1, h3, h4⟩ := h E' h1 h2
  exact ⟨E1, h3, .inl ⟨.inl rfl, h4⟩⟩
theorem loc_yes {n : Nat} {b : Bool} (hg : get E n = .v (.bool b)) (h : LocO P dst op E e) : Loc P ⟨dst, some (n, b), op⟩ E ⟨n :: e.R, e.S, e.W⟩ := fun E' h1 h2 => by
  obtain ⟨E1, h3, h4⟩ := h E' (fun m hm => h1 m (List.mem_cons_of_mem _ hm)) h2
  exact ⟨E1, h3, .inl ⟨.inr ⟨n, b, rfl, by rw [h1 n (by simp)]; exact hg⟩, h4⟩⟩
theorem okPut_of {E : Env} {d : Nat} (h : (get E d).excl = false) (s : Slot) : okPut d s E = true := by simp [okPut, h]
theorem loc_no {n d : Nat} {b : Bool} (hg : unw (get E n) b) (hd : (get E d).excl = false) : Loc P ⟨some d, some (n, b), op⟩ E ⟨[n, d], [], [(d, .skp)]⟩ := fun E' h1 h2 => by
  have e1 := h1 n (by simp)
  have e2 := h1 d (by simp)
  refine ⟨(d, .skp) :: E', fun _ => rfl, .inr ⟨n, b, rfl, by rw [e1]; exact hg, ?_⟩⟩
  simp only [skipE]
  rw [if_pos (okPut_of (by rw [e2]; exact hd) _)]
theorem lo_pure {d : Nat} {s : Slot} (he : ev E op = some s) (hd : (get E d).excl = false) : LocO P (some d) op E ⟨d :: rdL E op.reads, [], [(d, s)]⟩ := fun E' h1 _ => by
  refine ⟨(d, s) :: E', fun _ => rfl, .of (.pure ?_ (okPut_of (by rw [h1 d (by simp)]; exact hd) s))⟩
  rw [ev_congr (agree_of (fun n hn => h1 n (List.mem_cons_of_mem _ hn)))]; exact he
theorem lo_call {d : Nat} {f : FuncId} {xs : List X} {args : List AV} {rs : List RV} {s : Slot} (hOK : CallsOK P f args rs) (hav : argsV E xs = some args) (hmode : (argsPure E xs || rs.all scalRV) = true) (hs : resSlot rs = some s) (hd : (get E d).excl = false) :
    LocO P (some d) (.call f xs) E ⟨d :: rdL E (xs.flatMap X.reads), [], [(d, s)]⟩ := fun E' h1 _ => by
  have hg := agree_of (fun n hn => h1 n (List.mem_cons_of_mem _ hn))
  refine ⟨(d, s) :: E', fun _ => rfl, .of (.call ⟨args, rs, by rw [argsV_congr xs hg]; exact hav, hOK, ?_, hs⟩ (okPut_of (by rw [h1 d (by simp)]; exact hd) s))⟩
  rw [argsPure_congr xs hg]; simpa using hmode
theorem lo_alc {d : Nat} {ds : List DV} (hd : (get E d).excl = false) : LocO P (some d) (.alc ds) E ⟨[d], [], [(d, .box ds)]⟩ := fun E' h1 _ =>
  ⟨(d, .box ds) :: E', fun _ => rfl, .of (.spec (by simp only [stp]; rw [if_pos (okPut_of (by rw [h1 d (by simp)]; exact hd) _)]))⟩
theorem lo_nilo {d e sz bys : Nat} (hd : (get E d).excl = false) : LocO P (some d) (.nilo e sz bys) E ⟨[d], [], [(d, .own e sz bys [])]⟩ := fun E' h1 _ =>
  ⟨(d, .own e sz bys []) :: E', fun _ => rfl, .of (.spec (by simp only [stp]; rw [if_pos (okPut_of (by rw [h1 d (by simp)]; exact hd) _)]))⟩
theorem lo_bslo {d e sz bys : Nat} {rows : List X} {es : List (List DV)} (hl : layRows E sz rows = some es) (hd : (get E d).excl = false) : LocO P (some d) (.bslo e sz bys rows) E ⟨d :: rdL E (rows.flatMap X.reads), [], [(d, .own e sz bys es)]⟩ := fun E' h1 _ => by
  have hg := agree_of (fun n hn => h1 n (List.mem_cons_of_mem _ hn))
  exact ⟨(d, .own e sz bys es) :: E', fun _ => rfl, .of (.spec (by simp only [stp]; rw [if_pos (okPut_of (by rw [h1 d (by simp)]; exact hd) _), layRows_congr rows hg, hl]; rfl))⟩
theorem lo_box {d : Nat} {x : X} {ds : List DV} (hx : (match vw E x with | .v dv => some [dv] | .agg ds => some ds | _ => none) = some ds) (hd : (get E d).excl = false) : LocO P (some d) (.box x) E ⟨d :: rdL E x.reads, [], [(d, .box ds)]⟩ := fun E' h1 _ => by
  have hg := agree_of (fun n hn => h1 n (List.mem_cons_of_mem _ hn))
  refine ⟨(d, .box ds) :: E', fun _ => rfl, .of (.spec ?_)⟩
  simp only [stp]; rw [if_pos (okPut_of (by rw [h1 d (by simp)]; exact hd) _), vw_congr hg]
  cases hv : vw E x <;> rw [hv] at hx <;> simp_all
theorem get_drop_eq {n : Nat} {E : Env} (h : noRefs n E = true) (m : Nat) : get (drop1 n E) m = get ((n, .undef) :: E) m := by
  rw [get_drop1]
  simp only [get]
  by_cases e : n = m
  · simp [e]
  · have := noRefs_get h m
    simp [e, Ne.symm e, this]
theorem lo_app {d n e sz bys : Nat} {m : Nat} {y : X} {es es' : List (List DV)} (hx : get E m = .own e sz bys es) (hy : vw E y = .v (.sl sz es')) (hdm : d ≠ m) (hb : (es.length + es'.length) * bys ≤ 140737488355328) (hl : es.length + es'.length ≤ 1099511627776)
    (hd : (get E d).excl = false) (hn : n = m) : LocO P (some d) (.app e sz bys (.t m) y) E ⟨d :: m :: rdL E y.reads, [m], [(d, .own e sz bys (es ++ es')), (m, .undef)]⟩ := fun E' h1 h2 => by
  have hg := agree_of (fun n hn => h1 n (List.mem_cons_of_mem _ (List.mem_cons_of_mem _ hn)))
  have hm := h1 m (by simp)
  have hnr := h2 m (by simp)
  refine ⟨(d, .own e sz bys (es ++ es')) :: drop1 m E', fun k => ?_, .of (.spec ?_)⟩
  · simp only [get, List.cons_append, List.nil_append]
    split
    · rfl
    · rw [get_drop_eq hnr]; rfl
  · have hvx : vw E' (.t m) = .al m := by simp only [vw, hm, hx]
    have hp : okPut d .undef (drop1 m E') = true := okPut_of (by
      rw [get_drop_eq hnr]; simp only [get, if_neg (Ne.symm hdm)]; rw [h1 d (by simp)]; exact hd) _
    simp only [stp, hvx, vw_congr hg, hy, isOwn, hm, hx]
    rw [if_pos ⟨trivial, trivial, trivial, trivial, hdm, hp, hb, hl⟩]
theorem lo_sto {n o : Nat} {ad x : X} {ds : List DV} {d : DV} (ha : vw E ad = .ref n o) (hb : get E n = .box ds) (hx : vw E x = .v d) (ho : o < ds.length) : LocO P none (.sto 1 ad x) E ⟨n :: (rdL E ad.reads ++ rdL E x.reads), [], [(n, .box (ds.set o d))]⟩ := fun E' h1 h2 => by
  have hg := agree_of (fun n hn => h1 n (List.mem_cons_of_mem _ (List.mem_append_left _ hn)))
  have hg2 := agree_of (fun n hn => h1 n (List.mem_cons_of_mem _ (List.mem_append_right _ hn)))
  refine ⟨(n, .box (ds.set o d)) :: E', fun k => rfl, .of (.spec ?_)⟩
  simp only [stp, vw_congr hg, ha, h1 n (by simp), hb, vw_congr hg2, hx]
  rw [if_pos ⟨trivial, ho⟩]
theorem lo_stoa {n o m' : Nat} {ad x : X} {ds ds' : List DV} (ha : vw E ad = .ref n o) (hb : get E n = .box ds) (hx : vw E x = .agg ds') (hm : m' = ds'.length) (ho : o + ds'.length ≤ ds.length) : LocO P none (.sto m' ad x) E ⟨n :: (rdL E ad.reads ++ rdL E x.reads), [], [(n, .box (ds.take o ++ ds' ++ ds.drop (o + ds'.length)))]⟩ := fun E' h1 h2 => by
  have hg := agree_of (fun n hn => h1 n (List.mem_cons_of_mem _ (List.mem_append_left _ hn)))
  have hg2 := agree_of (fun n hn => h1 n (List.mem_cons_of_mem _ (List.mem_append_right _ hn)))
  refine ⟨(n, .box (ds.take o ++ ds' ++ ds.drop (o + ds'.length))) :: E', fun k => rfl, .of (.spec ?_)⟩
  simp only [stp, vw_congr hg, ha, h1 n (by simp), hb, vw_congr hg2, hx]
  rw [if_pos ⟨hm, ho⟩]
theorem lo_stoo {n o m e sz bys : Nat} {ad : X} {ds : List DV} {es : List (List DV)} (ha : vw E ad = .ref n o) (hb : get E n = .box ds) (hx : get E m = .own e sz bys es) (ho : o < ds.length) (hnm : n ≠ m) : LocO P none (.sto 1 ad (.t m)) E ⟨n :: m :: rdL E ad.reads, [m], [(n, .box (ds.set o (.sl sz es))), (m, .v (.sl sz es))]⟩ := fun E' h1 h2 => by
  have hg := agree_of (fun n hn => h1 n (List.mem_cons_of_mem _ (List.mem_cons_of_mem _ hn)))
  have hm := h1 m (by simp)
  have hnr := h2 m (by simp)
  refine ⟨(n, .box (ds.set o (.sl sz es))) :: (m, .v (.sl sz es)) :: drop1 m E', fun k => ?_, .of (.spec ?_)⟩
  · simp only [get, List.cons_append, List.nil_append]
    split
    · rfl
    · split
      · rfl
      · rename_i h3 h4
        rw [get_drop_eq hnr]; simp only [get]; rw [if_neg h4]
  · have hvx : vw E' (.t m) = .al m := by simp only [vw, hm, hx]
    simp only [stp, vw_congr hg, ha, h1 n (by simp), hb, hvx, isOwn, hm, hx]
    rw [if_pos ⟨trivial, ho, hnm⟩]
theorem lo_asgo {d m e sz bys : Nat} {es : List (List DV)} (hx : get E m = .own e sz bys es) (hdm : d ≠ m) (hd : (get E d).excl = false) : LocO P (some d) (.asg true (.t m)) E ⟨[d, m], [m], [(d, .own e sz bys es), (m, .undef)]⟩ := fun E' h1 h2 => by
  have hm := h1 m (by simp)
  have hnr := h2 m (by simp)
  refine ⟨(d, .own e sz bys es) :: drop1 m E', fun k => ?_, .of (.spec ?_)⟩
  · simp only [get, List.cons_append, List.nil_append]
    split
    · rfl
    · rw [get_drop_eq hnr]; rfl
  · have hvx : vw E' (.t m) = .al m := by simp only [vw, hm, hx]
    have hp : okPut d .undef (drop1 m E') = true := okPut_of (by
      rw [get_drop_eq hnr]; simp only [get, if_neg (Ne.symm hdm)]; rw [h1 d (by simp)]; exact hd) _
    simp only [stp, hvx, isOwn, hm, hx]
    rw [if_pos trivial, if_pos ⟨hdm, hp⟩]
theorem lo_asg {d : Nat} {x : X} {take : Bool} {s : Slot} (hx : vw E x = s) (hs : ∀ n, s ≠ .al n) (hd : (get E d).excl = false) : LocO P (some d) (.asg take x) E ⟨d :: rdL E x.reads, [], [(d, s)]⟩ := fun E' h1 h2 => by
  have hg := agree_of (fun n hn => h1 n (List.mem_cons_of_mem _ hn))
  refine ⟨(d, s) :: E', fun k => rfl, .of (.spec ?_)⟩
  simp only [stp, vw_congr hg, hx]
  cases s <;> first | exact absurd rfl (hs _) | (rw [if_pos (okPut_of (by rw [h1 d (by simp)]; exact hd) _)])
end
def AnyM (P : Program) (Q : Env → Prop) (cl : List (List Nat)) (l : List GOp) (keep : List Nat) (k : List It) (E : Env) (tr0 : List TrE) : Prop :=
  ∃ tr E2, Tr P l E tr E2 ∧ anyOk cl (tr0.reverse ++ tr) E2 = true ∧ RunQ P Q k (keepOnly keep E2)
def forceL : List Nat → Option (List Nat)
  | [] => some []
  | n :: l => match forceL l with
    | some l' => some (n :: l')
    | none => none
theorem forceL_eq : ∀ l, forceL l = some l
  | [] => rfl
  | n :: l => by simp [forceL, forceL_eq l]
def nextO (E : Env) (dst : Option Nat) (op : AOp) : Option (List Nat × List Nat × List (Nat × Slot)) := match op, dst with
  | .alc ds, some d => if (get E d).excl then none else some ([d], [], [(d, .box ds)])
  | .nilo e sz bys, some d => if (get E d).excl then none else some ([d], [], [(d, .own e sz bys [])])
  | .bslo e sz bys rows, some d => if (get E d).excl then none else match layRows E sz rows, forceL (d :: rdL E (rows.flatMap X.reads)) with
    | some es, some R => some (R, [], [(d, .own e sz bys es)])
    | _, _ => none
  | .box x, some d => if (get E d).excl then none else match (match vw E x with | .v dv => some [dv] | .agg ds => some ds | _ => none), forceL (d :: rdL E x.reads) with
    | some ds, some R => some (R, [], [(d, .box ds)])
    | _, _ => none
  | .sto m' ad x, none => match vw E ad with
    | .ref n o => match get E n with
      | .box ds => match vw E x with
        | .v d => if m' = 1 ∧ o < ds.length then (match forceL (n :: (rdL E ad.reads ++ rdL E x.reads)) with | some R => some (R, [], [(n, .box (ds.set o d))]) | none => none) else none
        | .agg ds' => if m' = ds'.length ∧ o + ds'.length ≤ ds.length then (match forceL (n :: (rdL E ad.reads ++ rdL E x.reads)) with | some R => some (R, [], [(n, .box (ds.take o ++ ds' ++ ds.drop (o + ds'.length)))]) | none => none) else none
        | .al _ => match x with
          | .t m => match get E m with
            | .own _ sz _ es => if m' = 1 ∧ o < ds.length ∧ n ≠ m then (match forceL (n :: m :: rdL E ad.reads) with | some R => some (R, [m], [(n, .box (ds.set o (.sl sz es))), (m, .v (.sl sz es))]) | none => none) else none
            | _ => none
          | _ => none
        | _ => none
      | _ => none
    | _ => none
  | .asg take x, some d => if (get E d).excl then none else match vw E x with
    | .al _ => match take, x with
      | true, .t m => match get E m with
        | .own e sz bys es => if d ≠ m then some ([d, m], [m], [(d, .own e sz bys es), (m, .undef)]) else none
        | _ => none
      | _, _ => none
    | s => match force s, forceL (d :: rdL E x.reads) with
      | some s', some R => some (R, [], [(d, s')])
      | _, _ => none
  | op, some d => if op.spec then none else if (get E d).excl then none else match ev E op with
    | some s => match force s, forceL (d :: rdL E op.reads) with
      | some s', some R => some (R, [], [(d, s')])
      | _, _ => none
    | none => none
  | _, _ => none
theorem nextO_ok {P : Program} {E : Env} {dst : Option Nat} {op : AOp} {R S : List Nat} {W : List (Nat × Slot)} (h : nextO E dst op = some (R, S, W)) : LocO P dst op E ⟨R, S, W⟩ := by
  unfold nextO at h
  split at h
  · split at h
    · simp at h
    · rename_i hd; simp only [Option.some.injEq, Prod.mk.injEq] at h; obtain ⟨rfl, rfl, rfl⟩ := h; exact lo_alc (by simpa using hd)
  · split at h
    · simp at h
    · rename_i hd; simp only [Option.some.injEq, Prod.mk.injEq] at h; obtain ⟨rfl, rfl, rfl⟩ := h; exact lo_nilo (by simpa using hd)
  · split at h
    · simp at h
    · rename_i hd
      rw [forceL_eq] at h
      split at h
      · rename_i hl hR; simp only [Option.some.injEq] at hR; subst hR; simp only [Option.some.injEq, Prod.mk.injEq] at h; obtain ⟨rfl, rfl, rfl⟩ := h; exact lo_bslo hl (by simpa using hd)
      · simp at h
  · split at h
    · simp at h
    · rename_i hd
      rw [forceL_eq] at h
      split at h
      · rename_i hl hR; simp only [Option.some.injEq] at hR; subst hR; simp only [Option.some.injEq, Prod.mk.injEq] at h; obtain ⟨rfl, rfl, rfl⟩ := h; exact lo_box hl (by simpa using hd)
      · simp at h
  · split at h
    case h_2 => simp at h
    rename_i ha
    split at h
    case h_2 => simp at h
    rename_i hb
    split at h
    · rename_i hx
      split at h
      case isFalse => simp at h
      rename_i hc
      rw [forceL_eq] at h; simp only [Option.some.injEq, Prod.mk.injEq] at h; obtain ⟨rfl, rfl, rfl⟩ := h
      rw [hc.1]; exact lo_sto ha hb hx hc.2
    · rename_i hx
      split at h
      case isFalse => simp at h
      rename_i hc
      rw [forceL_eq] at h; simp only [Option.some.injEq, Prod.mk.injEq] at h; obtain ⟨rfl, rfl, rfl⟩ := h
      exact lo_stoa ha hb hx hc.1 hc.2
    · split at h
      case h_2 => simp at h
      split at h
      case h_2 => simp at h
      rename_i hm
      split at h
      case isFalse => simp at h
      rename_i hc
      rw [forceL_eq] at h; simp only [Option.some.injEq, Prod.mk.injEq] at h; obtain ⟨rfl, rfl, rfl⟩ := h
      rw [hc.1]; exact lo_stoo ha hb hm hc.2.1 hc.2.2
    · simp at h
  · split at h
    · simp at h
    rename_i hd
    split at h
    · split at h
      case h_2 => simp at h
      split at h
      case h_2 => simp at h
      rename_i hm
      split at h
      case isFalse => simp at h
      rename_i hc
      simp only [Option.some.injEq, Prod.mk.injEq] at h; obtain ⟨rfl, rfl, rfl⟩ := h
      exact lo_asgo hm hc (by simpa using hd)
    · rename_i hs
      rw [force_eq, forceL_eq] at h
      simp only [Option.some.injEq, Prod.mk.injEq] at h; obtain ⟨rfl, rfl, rfl⟩ := h
      exact lo_asg rfl hs (by simpa using hd)
  · split at h
    · simp at h
    split at h
    · simp at h
    rename_i hd
    split at h
    case h_2 => simp at h
    rename_i he
    rw [force_eq, forceL_eq] at h
    simp only [Option.some.injEq, Prod.mk.injEq] at h; obtain ⟨rfl, rfl, rfl⟩ := h
    exact lo_pure he (by simpa using hd)
  · simp at h
def catE : List (Nat × Slot) → Env → Option Env
  | [], E => some E
  | p :: W, E => match catE W E with
    | some E' => some (p :: E')
    | none => none
theorem catE_eq : ∀ (W : List (Nat × Slot)) (E : Env), catE W E = some (W ++ E)
  | [], _ => rfl
  | p :: W, E => by simp [catE, catE_eq W E]
def nextA (g : GOp) (E : Env) : Option (TrE × Env) := match g with
  | ⟨dst, none, op⟩ => match nextO E dst op with
    | some (R, S, W) => match catE W E with
      | some E1 => some (⟨R, S, W⟩, E1)
      | none => none
    | none => none
  | ⟨dst, some (n, b), op⟩ => match get E n with
    | .v (.bool b') => match b' == b with
      | true => match nextO E dst op with
        | some (R, S, W) => match catE W E with
          | some E1 => some (⟨n :: R, S, W⟩, E1)
          | none => none
        | none => none
      | false => match dst with
        | some d => if (get E d).excl then none else some (⟨[n, d], [], [(d, .skp)]⟩, (d, .skp) :: E)
        | none => none
    | .skp => match dst with
      | some d => if (get E d).excl then none else some (⟨[n, d], [], [(d, .skp)]⟩, (d, .skp) :: E)
      | none => none
    | _ => none
section
variable {P : Program} {Q : Env → Prop} {cl : List (List Nat)} {l : List GOp} {keep : List Nat} {k : List It} {E : Env} {tr : List TrE} {g : GOp} {e : TrE}
theorem any_run (h : AnyM P Q cl l keep k E []) : RunQ P Q (.code (.any cl l keep) :: k) E := let ⟨_, _, h1, h2, h3⟩ := h; .any h1 (by simpa using h2) h3
theorem any_nil {E' : Env} (h : anyOk cl tr.reverse E = true) (he : kp keep E keep = some E') (hm : RunQ P Q k E') : AnyM P Q cl [] keep k E tr := ⟨[], E, .nil, by simpa using h, by
  have := kp_eq he
  unfold keepOnly; rw [this]; exact hm⟩
theorem any_cons (h : Loc P g E e) (hm : AnyM P Q cl l keep k (e.W ++ E) (e :: tr)) : AnyM P Q cl (g :: l) keep k E tr := by
  obtain ⟨tr2, E2, h1, h2, h3⟩ := hm
  exact ⟨e :: tr2, E2, .cons h h1, by simpa using h2, h3⟩
theorem goA {E1 : Env} (h : nextA g E = some (e, E1)) (hm : AnyM P Q cl l keep k E1 (e :: tr)) : AnyM P Q cl (g :: l) keep k E tr := by
  unfold nextA at h
  split at h
  · split at h
    case h_2 => simp at h
    rename_i ho
    rw [catE_eq] at h
    simp only [Option.some.injEq, Prod.mk.injEq] at h; obtain ⟨rfl, rfl⟩ := h
    exact any_cons (loc_none (nextO_ok ho)) hm
  · rename_i dst n b op
    split at h
    · rename_i b' hg
      split at h
      · rename_i hb
        have hb' : b' = b := by simpa using hb
        subst hb'
        split at h
        case h_2 => simp at h
        rename_i ho
        rw [catE_eq] at h
        simp only [Option.some.injEq, Prod.mk.injEq] at h; obtain ⟨rfl, rfl⟩ := h
        exact any_cons (loc_yes hg (nextO_ok ho)) hm
      · rename_i hb
        split at h
        case h_2 => simp at h
        split at h
        · simp at h
        rename_i hd
        simp only [Option.some.injEq, Prod.mk.injEq] at h; obtain ⟨rfl, rfl⟩ := h
        exact any_cons (loc_no (.inl ⟨b', hg, by simpa using hb⟩) (by simpa using hd)) hm
    · rename_i hg
      split at h
      case h_2 => simp at h
      split at h
      · simp at h
      rename_i hd
      simp only [Option.some.injEq, Prod.mk.injEq] at h; obtain ⟨rfl, rfl⟩ := h
      exact any_cons (loc_no (.inr hg) (by simpa using hd)) hm
    · simp at h
theorem goAc {d : Nat} {f : FuncId} {xs : List X} {args : List AV} {rs : List RV} {s : Slot} (hOK : CallsOK P f args rs) (hav : argsV E xs = some args) (hmode : (argsPure E xs || rs.all scalRV) = true) (hs : resSlot rs = some s) (hd : (get E d).excl = false)
    (hm : AnyM P Q cl l keep k ((d, s) :: E) (⟨d :: rdL E (xs.flatMap X.reads), [], [(d, s)]⟩ :: tr)) : AnyM P Q cl (⟨some d, none, .call f xs⟩ :: l) keep k E tr := any_cons (loc_none (lo_call hOK hav hmode hs hd)) hm
theorem goAa {d e sz bys : Nat} {m : Nat} {y : X} {es es' : List (List DV)} (hx : get E m = .own e sz bys es) (hy : vw E y = .v (.sl sz es')) (hdm : d ≠ m) (hb : (es.length + es'.length) * bys ≤ 140737488355328) (hl : es.length + es'.length ≤ 1099511627776)
    (hd : (get E d).excl = false) (hm : AnyM P Q cl l keep k ((d, .own e sz bys (es ++ es')) :: (m, .undef) :: E) (⟨d :: m :: rdL E y.reads, [m], [(d, .own e sz bys (es ++ es')), (m, .undef)]⟩ :: tr)) :
    AnyM P Q cl (⟨some d, none, .app e sz bys (.t m) y⟩ :: l) keep k E tr := any_cons (loc_none (lo_app hx hy hdm hb hl hd rfl)) hm
end
end Go.Rd

