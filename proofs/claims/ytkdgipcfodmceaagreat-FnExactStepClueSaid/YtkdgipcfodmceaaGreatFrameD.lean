import Derived.Test.YtkdgipcfodmceaaGreatFrameC
import Derived.ChangeArms
import Derived.DataReads
import Derived.KernelRfl
import Derived.WideShapes
import Derived.SizedLaws
/- What comes in, as the data that the contracts speak of. No condition. -/
set_option linter.unusedVariables false
set_option linter.unusedSimpArgs false
namespace Go.Rd
open Go.RowKit
inductive Sh where
  | int | str | bool
  | sl (z : Nat) (e : Sh)
  | st (fs : List Sh)
mutual
def Sh.n : Sh → Nat
  | .st fs => shN fs
  | _ => 1
def shN : List Sh → Nat
  | [] => 0
  | f :: fs => f.n + shN fs
end
mutual
def HasSh : Sh → List DV → Prop
  | .int, ds => ∃ n : Int, ds = [.int .i64 n] ∧ -9223372036854775808 ≤ n ∧ n ≤ 9223372036854775807
  | .str, ds => ∃ s, ds = [.str s] ∧ s.length ≤ reachBytes
  | .bool, ds => ∃ b, ds = [.bool b]
  | .sl z e, ds => ∃ es, ds = [.sl z es] ∧ es.length ≤ reachBytes ∧ ∀ r ∈ es, HasSh e r
  | .st fs, ds => HasShs fs ds
def HasShs : List Sh → List DV → Prop
  | [], ds => ds = []
  | f :: fs, ds => ∃ a b, ds = a ++ b ∧ HasSh f a ∧ HasShs fs b
end
mutual
def shOK (P : Program) : Sh → TypeId → Bool
  | .int, t => match P.underlying t with | some (.int .i64) => true | _ => false
  | .str, t => match P.underlying t with | some .string => true | _ => false
  | .bool, t => match P.underlying t with | some .bool => true | _ => false
  | .sl z e, t => match P.underlying t with | some (.slice e') => P.cellsOf e' == z && e.n == z && decide (0 < z) && decide (0 < P.bytesOf e') && shOK P e e' | _ => false
  | .st fs, t => match P.underlying t with | some (.struct fds) => P.cellsOf t == shN fs && shOKs P fs fds.toList 0 | _ => false
def shOKs (P : Program) : List Sh → List Field → Nat → Bool
  | [], [], _ => true
  | f :: fs, d :: ds, off => d.offset == off && P.cellsOf d.type == f.n && shOK P f d.type && shOKs P fs ds (off + f.n)
  | _, _, _ => false
end
section
variable {H : Type} {enc : TypeId × Value → H} {P : Program} {w : World} {base : Nat} {spare : Nat → Bool} {held : Bool}
theorem cell_lt {a : Addr} {v : Value} (h : w.cell? a = some v) : a.block < w.heap.size ∧ a.spot = none := by
  unfold World.cell? at h
  split at h
  · rename_i hb
    refine ⟨(Array.getElem?_eq_some_iff.1 hb).1, ?_⟩
    split at h
    · simp at h
    · rename_i hs; simpa using hs
  · simp at h
theorem repRow_of {ok : Nat → Prop} {b : Nat} : ∀ {ds : List DV} {vs : List Value} {o : Nat}, All2 (Rep ok w) ds vs → (∀ i, i < vs.length → w.cell? ⟨b, o + i, none⟩ = vs[i]?) → RepRow ok w b ds o
  | [], [], _, _, _ => by simp [RepRow]
  | [], _ :: _, _, h, _ => h.elim
  | _ :: _, [], _, h, _ => h.elim
  | d :: ds, v :: vs, o, h, hc => by
    simp only [RepRow]
    refine ⟨⟨v, by simpa using hc 0 (by simp), h.1⟩, repRow_of h.2 (fun i hi => ?_)⟩
    have := hc (i + 1) (by simpa using hi)
    rw [show o + 1 + i = o + (i + 1) by omega]; simpa using this
theorem all2_len {α β : Type} {R : α → β → Prop} : ∀ {as : List α} {bs : List β}, All2 R as bs → as.length = bs.length
  | [], [], _ => rfl
  | _ :: _, _ :: _, h => by simp [all2_len h.2]
  | [], _ :: _, h => h.elim
  | _ :: _, [], h => h.elim
theorem repRows_of {ok : Nat → Prop} {b z : Nat} : ∀ {es : List (List DV)} {o : Nat}, (∀ i, i < es.length → (es.getD i []).length = z ∧ RepRow ok w b (es.getD i []) (o + i * z)) → RepRows ok w z b es o
  | [], _, _ => by simp [RepRows]
  | r :: rs, o, h => by
    simp only [RepRows]
    have h0 := h 0 (by simp)
    refine ⟨by simpa using h0.1, by simpa using h0.2, repRows_of (fun i hi => ?_)⟩
    have := h (i + 1) (by simpa using hi)
    rw [show o + z + i * z = o + (i + 1) * z by rw [Nat.add_mul]; omega]
    simpa using this
theorem exists_list {α : Type} {p : Nat → α → Prop} : ∀ n, (∀ i, i < n → ∃ x, p i x) → ∃ l : List α, l.length = n ∧ ∀ i x, l[i]? = some x → p i x
  | 0, _ => ⟨[], rfl, by simp⟩
  | n + 1, h => by
    obtain ⟨l, h1, h2⟩ := exists_list n (fun i hi => h i (by omega))
    obtain ⟨x, hx⟩ := h n (by omega)
    refine ⟨l ++ [x], by simp [h1], fun i y hi => ?_⟩
    rcases Nat.lt_or_ge i n with hi' | hi'
    · rw [List.getElem?_append_left (by omega)] at hi; exact h2 i y hi
    · rw [List.getElem?_append_right (by omega)] at hi
      have : i - l.length = 0 := by
        have := (List.getElem?_eq_some_iff.1 hi).1
        simp at this; omega
      rw [this] at hi; simp at hi; subst hi
      rw [show i = n by omega]; exact hx
abbrev okW (w : World) (b : Nat) : Prop := b < w.heap.size
theorem weights_all {e : TypeId} {n : Nat} : ∀ {l : List (DataW H)} {d : DataW H}, d ∈ l → n ∈ d.weights P e → n ∈ DataW.weightsAll P e l
  | [], _, h, _ => by simp at h
  | x :: l, d, h, hn => by
    simp only [DataW.weightsAll, List.mem_append]
    rcases List.mem_cons.1 h with rfl | h
    · exact .inl hn
    · exact .inr (weights_all h hn)
mutual
theorem trod_sh : ∀ (sh : Sh) {t : TypeId} {fuel : Nat} {cs : List Value} {x : DataW H × List MemPlace}, shOK P sh t = true → DataW.trod enc P w base spare held fuel t cs = some x → (∀ n ∈ x.1.weights P t, n ≤ reachBytes) → ∃ ds, HasSh sh ds ∧ All2 (Rep (okW w) w) ds cs ∧ ds.length = sh.n
  | .int, t, fuel, cs, x, hs, h, hw => by
    simp only [shOK] at hs
    split at hs
    case h_2 => simp at hs
    rename_i hu
    obtain ⟨n, rfl, _, hw⟩ := DataW.trod_int hu h
    refine ⟨[.int .i64 n], ⟨n, rfl, ?_⟩, ⟨by simp [Rep], trivial⟩, by simp [Sh.n]⟩
    simp only [Lit.wf, Bool.and_eq_true] at hw
    have h1 : decide (IntKind.min .i64 ≤ n) = true := hw.1
    have h2 : decide (n ≤ IntKind.max .i64) = true := hw.2
    have e1 : IntKind.min .i64 = -9223372036854775808 := by kernel_rfl
    have e2 : IntKind.max .i64 = 9223372036854775807 := by kernel_rfl
    rw [e1] at h1; rw [e2] at h2
    exact ⟨of_decide_eq_true h1, of_decide_eq_true h2⟩
  | .str, t, fuel, cs, x, hs, h, hw => by
    simp only [shOK] at hs
    split at hs
    case h_2 => simp at hs
    rename_i hu
    obtain ⟨s, rfl, rfl, _⟩ := DataW.trod_string hu h
    refine ⟨[.str s.data.toList], ⟨_, rfl, hw _ (by simp [DataW.weights])⟩, ⟨by simp only [Rep], trivial⟩, by simp [Sh.n]⟩
  | .bool, t, fuel, cs, x, hs, h, hw => by
    simp only [shOK] at hs
    split at hs
    case h_2 => simp at hs
    rename_i hu
    obtain ⟨b, rfl, _⟩ := DataW.trod_bool hu h
    exact ⟨[.bool b], ⟨b, rfl⟩, ⟨by simp [Rep], trivial⟩, by simp [Sh.n]⟩
  | .sl z e, t, fuel, cs, x, hs, h, hw => by
    simp only [shOK] at hs
    split at hs
    case h_2 => simp at hs
    rename_i e' hu
    simp only [Bool.and_eq_true, beq_iff_eq, decide_eq_true_eq] at hs
    obtain ⟨⟨⟨⟨hz, hn⟩, hz0⟩, hby⟩, hs⟩ := hs
    rcases DataW.trod_slice hu h with ⟨rfl, _⟩ | ⟨a, len, cap, elems, rest, n, _, rfl, rfl, _, hl, hm, hel, hat, _, _⟩
    · exact ⟨[.sl z []], ⟨[], rfl, by simp, by simp⟩, ⟨by simp only [Rep]; exact ⟨none, 0, rfl, by simp, by simp⟩, trivial⟩, by simp [Sh.n]⟩
    · have hrow : ∀ i, i < len → ∃ r : List DV, HasSh e r ∧ r.length = z ∧ ∃ cs', cs'.length = z ∧ All2 (Rep (okW w) w) r cs' ∧ ∀ j, j < z → w.cell? ((a.add (i * z)).add j) = cs'[j]? := fun i hi => by
        have h1 := hat i hi
        have hx : (w.cells? base (a.add (i * P.cellsOf e')) (P.cellsOf e')).bind (DataW.trod enc P w base spare held n e') = some elems[i] := by
          rw [h1, List.getElem?_eq_getElem (by omega)]
        obtain ⟨cs', h2, h3⟩ := Option.bind_eq_some_iff.1 hx
        obtain ⟨r, h4, h5, h6⟩ := trod_sh e hs h3 (fun n hn => hw n (by
          simp only [DataW.weights, hu, List.mem_cons, List.mem_append]
          exact .inr (.inl (weights_all (List.mem_map.2 ⟨elems[i], List.getElem_mem _, rfl⟩) hn))))
        obtain ⟨_, h7, h8⟩ := World.cells?_some h2
        rw [hz] at h7 h8
        exact ⟨r, h4, by rw [h6]; exact hn, cs', h7, h5, h8⟩
      obtain ⟨es, h1, h2⟩ := exists_list len hrow
      have hi' : ∀ i, i < es.length → es[i]? = some (es.getD i []) := fun i hi => by rw [List.getD_eq_getElem?_getD, List.getElem?_eq_getElem hi]; rfl
      have hml : len ≤ reachBytes := by
        have h1 := hw ((elems.length + rest.length) * P.bytesOf e') (by simp [DataW.weights, hu])
        have h2 : len * 1 ≤ (elems.length + rest.length) * P.bytesOf e' := Nat.mul_le_mul (by omega) hby
        omega
      refine ⟨[.sl z es], ⟨es, rfl, by omega, fun r hr => ?_⟩, ⟨?_, trivial⟩, by simp [Sh.n]⟩
      · obtain ⟨i, hi⟩ := List.getElem?_of_mem hr
        exact (h2 i r hi).1
      · simp only [Rep]
        refine ⟨some a, cap, by rw [h1], by omega, ?_⟩
        cases hes : es with
        | nil => exact .inl rfl
        | cons r0 rs =>
          rw [← hes]
          right
          have hpos : 0 < es.length := by rw [hes]; simp
          obtain ⟨_, hl0, cs0, hc0, _, hcell⟩ := h2 0 _ (hi' 0 hpos)
          · have hsp := cell_lt (w := w) (a := (a.add (0 * z)).add 0) (v := cs0[0]'(by omega)) (by rw [hcell 0 hz0, List.getElem?_eq_getElem])
            simp only [Nat.zero_mul, Addr.add, if_true] at hsp
            obtain ⟨ab, ao, asp⟩ := a
            simp only at hsp
            obtain ⟨hlt, rfl⟩ := hsp
            refine ⟨ab, ao, rfl, hlt, repRows_of (fun i hi => ?_)⟩
            obtain ⟨_, hl1, cs1, hc1, hr1, hcell1⟩ := h2 i _ (hi' i hi)
            refine ⟨hl1, repRow_of hr1 (fun j hj => ?_)⟩
            have := hcell1 j (by omega)
            rw [addr_add, addr_add] at this
            exact this
  | .st fs, t, fuel, cs, x, hs, h, hw => by
    simp only [shOK] at hs
    split at hs
    case h_2 => simp at hs
    rename_i fds hu
    simp only [Bool.and_eq_true, beq_iff_eq] at hs
    obtain ⟨xs, n, _, rfl, hcl, hxl, hat⟩ := DataW.trod_struct hu h
    obtain ⟨ds, h1, h2, h3⟩ := trod_shs fs (fds := fds.toList) (off := 0) (n := n) (cs := cs) hs.2 (fun i f hf => by
      have h4 := hat i f (by simpa using hf)
      have : i < xs.length := by have := (List.getElem?_eq_some_iff.1 hf).1; simp at this; omega
      refine ⟨xs[i], by rw [h4, List.getElem?_eq_getElem this], fun n hn => hw n ?_⟩
      simp only [DataW.weights, hu]
      exact DataW.weights_mem_each (j := i) (t := f.type) (d := xs[i].1) (by simpa using ⟨f, by simpa using hf, rfl⟩) (by rw [List.getElem?_map, List.getElem?_eq_getElem this]; rfl) n hn)
    refine ⟨ds, h1, ?_, by simpa [Sh.n] using h3⟩
    rw [List.drop_zero] at h2
    rwa [List.take_of_length_le (by omega)] at h2
theorem trod_shs : ∀ (fs : List Sh) {fds : List Field} {off n : Nat} {cs : List Value}, shOKs P fs fds off = true → (∀ (i : Nat) (f : Field), fds[i]? = some f → ∃ x : DataW H × List MemPlace, DataW.trod enc P w base spare held n f.type ((cs.drop f.offset).take (P.cellsOf f.type)) = some x ∧ ∀ n ∈ x.1.weights P f.type, n ≤ reachBytes) →
    ∃ ds, HasShs fs ds ∧ All2 (Rep (okW w) w) ds ((cs.drop off).take (shN fs)) ∧ ds.length = shN fs
  | [], [], off, n, cs, _, _ => ⟨[], by simp [HasShs], by simp [shN, All2], by simp [shN]⟩
  | [], _ :: _, _, _, _, hs, _ => by simp [shOKs] at hs
  | _ :: _, [], _, _, _, hs, _ => by simp [shOKs] at hs
  | f :: fs, fd :: fds, off, n, cs, hs, h => by
    simp only [shOKs, Bool.and_eq_true, beq_iff_eq] at hs
    obtain ⟨⟨⟨ho, hn⟩, hf⟩, hr⟩ := hs
    obtain ⟨x, hx, hxw⟩ := h 0 fd (by simp)
    obtain ⟨d1, h1, h2, h3⟩ := trod_sh f hf hx hxw
    obtain ⟨d2, h4, h5, h6⟩ := trod_shs fs hr (fun i g hg => h (i + 1) g (by simpa using hg))
    refine ⟨d1 ++ d2, ⟨d1, d2, rfl, h1, h4⟩, ?_, by simp [shN, h3, h6]⟩
    rw [ho, hn] at h2
    have : (cs.drop off).take (shN (f :: fs)) = (cs.drop off).take f.n ++ (cs.drop (off + f.n)).take (shN fs) := by
      rw [shN, List.take_add, List.drop_drop]
    rw [this]
    exact All2.append _ _ _ _ h2 h5
end
theorem arg_st {fs : List Sh} {t : TypeId} {v : Value} {d : DataW H} {ps : List MemPlace} (hs : shOK P (.st fs) t = true) (hv : Value.okWide P w .any base t v) (h : DataW.Trod enc P w 0 spare held t v d ps) (hw : ∀ n ∈ d.weights P t, n ≤ reachBytes) : ∃ ds, HasShs fs ds ∧ ArgOK (okW w) w (.agg ds) v := by
  obtain ⟨fuel, hf⟩ := h
  obtain ⟨ds, h1, h2, _⟩ := trod_sh (.st fs) hs hf hw
  refine ⟨ds, h1, ?_⟩
  simp only [shOK] at hs
  split at hs
  case h_2 => simp at hs
  rename_i fds hu
  simp only [Value.okWide, hu] at hv
  obtain ⟨cs, rfl, _⟩ := hv
  exact ⟨cs, rfl, h2⟩
theorem arg_sl {z : Nat} {e : Sh} {t : TypeId} {v : Value} {d : DataW H} {ps : List MemPlace} (hs : shOK P (.sl z e) t = true) (hv : Value.okWide P w .any base t v) (h : DataW.Trod enc P w 0 spare held t v d ps) (hw : ∀ n ∈ d.weights P t, n ≤ reachBytes) : ∃ es, es.length ≤ reachBytes ∧ (∀ r ∈ es, HasSh e r) ∧ ArgOK (okW w) w (.v (.sl z es)) v := by
  obtain ⟨fuel, hf⟩ := h
  obtain ⟨ds, ⟨es, rfl, h3, h4⟩, h2, _⟩ := trod_sh (.sl z e) hs hf hw
  refine ⟨es, h3, h4, ?_⟩
  simp only [shOK] at hs
  split at hs
  case h_2 => simp at hs
  rename_i e' hu
  obtain ⟨a, len, cap, rfl⟩ := Go.WideShapes.okWide_slice hu hv
  exact h2.1
theorem rows_of {α : Type} {f : α → List DV} {sh : Sh} (h : ∀ r, HasSh sh r → ∃ x, r = f x) : ∀ {es : List (List DV)}, (∀ r ∈ es, HasSh sh r) → ∃ xs : List α, es = xs.map f
  | [], _ => ⟨[], rfl⟩
  | r :: rs, hr => by
    obtain ⟨x, hx⟩ := h r (hr r (by simp))
    obtain ⟨xs, hxs⟩ := rows_of h (es := rs) (fun q hq => hr q (by simp [hq]))
    exact ⟨x :: xs, by simp [hx, hxs]⟩
end
end Go.Rd

namespace Go.Rd
abbrev Str := List UInt8
structure Grd where
  rows : Int
  cols : Int
  cells : Str
  deriving DecidableEq, Inhabited
structure Slt where
  number : Int
  down : Bool
  cell : Int
  len : Int
  deriving DecidableEq, Inhabited
structure Lis where
  word : Str
  frm : Int
  til : Int
  score : Int
  deriving DecidableEq, Inhabited
structure Mea where
  word : Str
  sense : Int
  deriving DecidableEq, Inhabited
structure Stp where
  kind : Int
  word : Str
  a : Int
  b : Int
  deriving DecidableEq, Inhabited
structure Clu where
  sense : Int
  play : List Stp
  deriving DecidableEq, Inhabited
structure Puz where
  grid : Grd
  clues : List Clu
  seals : List Int
  salt : Int
  deriving DecidableEq, Inhabited
structure Iss where
  number : Int
  puz : Puz
  fill : Str
  op : Int
  cl : Int
  deriving DecidableEq, Inhabited
structure Dra where
  grid : Grd
  fill : Str
  clues : List Clu
  ver : Int
  deriving DecidableEq, Inhabited
structure Use where
  word : Str
  issue : Int
  deriving DecidableEq, Inhabited
structure Cor where
  issue : Int
  slot : Int
  clue : Clu
  tick : Int
  deriving DecidableEq, Inhabited
structure Ent where
  player : Int
  issue : Int
  tick : Int
  fill : Str
  deriving DecidableEq, Inhabited
structure Hou where
  list : List Lis
  dict : List Mea
  desk : Dra
  issues : List Iss
  uses : List Use
  cors : List Cor
  ents : List Ent
  now : Int
  deriving DecidableEq, Inhabited
abbrev dI (n : Int) : DV := .int .i64 n
abbrev dS (s : Str) : DV := .str s
def rS (s : Str) : List DV := [.str s]
def rI (n : Int) : List DV := [.int .i64 n]
def rB (b : Bool) : List DV := [.bool b]
def rY (c : UInt8) : List DV := [.int .u8 c.toNat]
def rGrd (g : Grd) : List DV := [dI g.rows, dI g.cols, dS g.cells]
def rSlt (s : Slt) : List DV := [dI s.number, .bool s.down, dI s.cell, dI s.len]
def rLis (x : Lis) : List DV := [dS x.word, dI x.frm, dI x.til, dI x.score]
def rMea (x : Mea) : List DV := [dS x.word, dI x.sense]
def rStp (x : Stp) : List DV := [dI x.kind, dS x.word, dI x.a, dI x.b]
abbrev dStps (l : List Stp) : DV := .sl 4 (l.map rStp)
def rClu (x : Clu) : List DV := [dI x.sense, dStps x.play]
abbrev dClus (l : List Clu) : DV := .sl 2 (l.map rClu)
abbrev dInts (l : List Int) : DV := .sl 1 (l.map rI)
abbrev dStrs (l : List Str) : DV := .sl 1 (l.map rS)
def rPuz (p : Puz) : List DV := [dI p.grid.rows, dI p.grid.cols, dS p.grid.cells, dClus p.clues, dInts p.seals, dI p.salt]
def rIss (x : Iss) : List DV := [dI x.number, dI x.puz.grid.rows, dI x.puz.grid.cols, dS x.puz.grid.cells, dClus x.puz.clues, dInts x.puz.seals, dI x.puz.salt, dS x.fill, dI x.op, dI x.cl]
def rDra (x : Dra) : List DV := [dI x.grid.rows, dI x.grid.cols, dS x.grid.cells, dS x.fill, dClus x.clues, dI x.ver]
def rUse (x : Use) : List DV := [dS x.word, dI x.issue]
def rCor (x : Cor) : List DV := [dI x.issue, dI x.slot, dI x.clue.sense, dStps x.clue.play, dI x.tick]
def rEnt (x : Ent) : List DV := [dI x.player, dI x.issue, dI x.tick, dS x.fill]
abbrev dLiss (l : List Lis) : DV := .sl 4 (l.map rLis)
abbrev dMeas (l : List Mea) : DV := .sl 2 (l.map rMea)
abbrev dIsss (l : List Iss) : DV := .sl 10 (l.map rIss)
abbrev dUses (l : List Use) : DV := .sl 2 (l.map rUse)
abbrev dCors (l : List Cor) : DV := .sl 5 (l.map rCor)
abbrev dEnts (l : List Ent) : DV := .sl 4 (l.map rEnt)
abbrev dSlts (l : List Slt) : DV := .sl 4 (l.map rSlt)
def rHou (h : Hou) : List DV := [dLiss h.list, dMeas h.dict, dI h.desk.grid.rows, dI h.desk.grid.cols, dS h.desk.grid.cells, dS h.desk.fill, dClus h.desk.clues, dI h.desk.ver, dIsss h.issues, dUses h.uses, dCors h.cors, dEnts h.ents, dI h.now]
end Go.Rd
