import Derived.Test.YtkdgipcfodmceaaGreatFrameB
import Derived.Laws.IdiomStrings
import Derived.Lib.FrozenHead
import Derived.MapKept
/- A framework of contracts: what a run of a function keeps, part 3. No condition. -/
set_option linter.unusedVariables false
set_option linter.unusedSimpArgs false
namespace Go.Rd
open Go.RowKit
structure HT where
  e : Nat
  sz : Nat
  bys : Nat
  es : List (List DV)
abbrev HT.dv (h : HT) : DV := .own h.e h.sz h.bys h.es
abbrev HT.slot (h : HT) (fr : Bool) (v : Value) (bs : List Nat) : Slot := .heap fr v bs h.e h.sz h.bys h.es
def HAll (ok : Nat → Prop) (w : World) (hs : List HT) (u : Gh) : Prop :=
  (∀ i h, hs[i]? = some h → XRep ok w h.dv (u.1 i) (u.2 i) ∧ (u.2 i).Nodup ∧ ∀ b ∈ u.2 i, ¬ ok b ∧ b < w.heap.size) ∧
  ∀ i j b, i < hs.length → j < hs.length → b ∈ u.2 i → b ∈ u.2 j → i = j
def CallsH (P : Program) (f : FuncId) (hin hout : List HT) (args : (Nat → Value) → List AV) (res : (Nat → Value) → List RV) : Prop :=
  ∀ (ok : Nat → Prop) (w : World) (vs : Array Value) (u : Gh), (∀ b, ok b → b < w.heap.size) → All2 (ArgOK ok w) (args u.1) vs.toList → HAll ok w hin u →
    Calls P f vs w fun x w' => ∃ r ok' u', x = .returned r ∧ BelowL ⟨w.heap.size, fun b => ∃ i, i < hin.length ∧ b ∈ u.2 i⟩ w w' ∧ OkExt ok ok' w w' ∧ ResOK w.heap.size ok' w' (res u'.1) r ∧
      HAll ok' w' hout u' ∧ (∀ i, i < hin.length → u'.1 i = u.1 i) ∧ ∀ i b, i < hout.length → b ∈ u'.2 i → w.heap.size ≤ b ∨ (i < hin.length ∧ ∃ j, j < hin.length ∧ b ∈ u.2 j)
def envH (fr : Nat → Bool) (u : Gh) : List Nat → List HT → Nat → Env
  | n :: ns, h :: hs, i => (n, h.slot (fr i) (u.1 i) (u.2 i)) :: envH fr u ns hs (i + 1)
  | _, _, _ => []
def GetH (E : Env) (fr : Nat → Bool) (u : Gh) : List Nat → List HT → Nat → Prop
  | n :: ns, h :: hs, i => get E n = h.slot (fr i) (u.1 i) (u.2 i) ∧ GetH E fr u ns hs (i + 1)
  | [], [], _ => True
  | _, _, _ => False
def drops (ns : List Nat) (E : Env) : Env := ns.foldr drop1 E
theorem envH_get {fr : Nat → Bool} {u : Gh} : ∀ {ns : List Nat} {hs : List HT} {i n : Nat} {E : Env}, get (envH fr u ns hs i ++ E) n = get E n ∨ ∃ (j : Nat) (h : HT), hs[j]? = some h ∧ ns[j]? = some n ∧ get (envH fr u ns hs i ++ E) n = h.slot (fr (i + j)) (u.1 (i + j)) (u.2 (i + j))
  | [], _, _, _, _ => .inl rfl
  | _ :: _, [], _, _, _ => .inl rfl
  | m :: ns, h :: hs, i, n, E => by
    simp only [envH, List.cons_append, get]
    split
    · rename_i e; subst e; exact .inr ⟨0, h, by simp, by simp, rfl⟩
    · rcases envH_get (fr := fr) (u := u) (ns := ns) (hs := hs) (i := i + 1) (n := n) (E := E) with h1 | ⟨j, h', h1, h2, h3⟩
      · exact .inl h1
      · exact .inr ⟨j + 1, h', by simpa using h1, by simpa using h2, by rw [h3, show i + 1 + j = i + (j + 1) by omega]⟩
theorem envH_not {fr : Nat → Bool} {u : Gh} {n : Nat} : ∀ {ns : List Nat} {hs : List HT} {i : Nat} {E : Env}, n ∉ ns → get (envH fr u ns hs i ++ E) n = get E n
  | [], _, _, _, _ => rfl
  | _ :: _, [], _, _, _ => rfl
  | m :: ns, h :: hs, i, E, hn => by
    simp only [envH, List.cons_append, get]
    rw [if_neg (fun e => hn (by simp [e]))]
    exact envH_not (fun h => hn (by simp [h]))
section
variable {P : Program} {ok : Nat → Prop} {N : Nat} {B : Bd} {w0 : World} {E : Env} {a : Act} {w : World}
theorem InvO.addHs {fr : Nat → Bool} {u : Gh} (h : InvO ok N B w0 E a w) : ∀ (ns : List Nat) (hs : List HT) (i : Nat), ns.Nodup → (∀ n ∈ ns, get E n = .undef) →
    (∀ j h, hs[j]? = some h → XRep ok w h.dv (u.1 (i + j)) (u.2 (i + j)) ∧ (u.2 (i + j)).Nodup ∧ ∀ b ∈ u.2 (i + j), ¬ ok b ∧ (B.n ≤ b ∨ (fr (i + j) = false ∧ B.L b)) ∧ b < w.heap.size) →
    (∀ j k b, j < hs.length → k < hs.length → b ∈ u.2 (i + j) → b ∈ u.2 (i + k) → j = k) → (∀ j b, j < hs.length → b ∈ u.2 (i + j) → ∀ n, ¬ blkP (get E n) (tm a n) b) → InvO ok N B w0 (envH fr u ns hs i ++ E) a w
  | [], _, _, _, _, _, _, _ => h
  | _ :: _, [], _, _, _, _, _, _ => h
  | n :: ns, q :: hs, i, hn, hu, hx, hd, hb => by
    have ih := InvO.addHs h ns hs (i + 1) (List.nodup_cons.1 hn).2 (fun m hm => hu m (by simp [hm])) (fun j q' hj => by
      have := hx (j + 1) q' (by simpa using hj)
      rw [show i + 1 + j = i + (j + 1) by omega]; exact this) (fun j k b hj hk h1 h2 => by
      have := hd (j + 1) (k + 1) b (by simpa using hj) (by simpa using hk) (by rw [show i + (j + 1) = i + 1 + j by omega]; exact h1) (by rw [show i + (k + 1) = i + 1 + k by omega]; exact h2)
      omega) (fun j b hj h1 => hb (j + 1) b (by simpa using hj) (by rw [show i + (j + 1) = i + 1 + j by omega]; exact h1))
    have h0 := hx 0 q (by simp)
    simp only [Nat.add_zero] at h0
    refine ih.addName (m := n) (s := q.slot (fr i) (u.1 i) (u.2 i)) (by rw [envH_not (List.nodup_cons.1 hn).1]; exact hu n (by simp)) (fun a' => ⟨h0.1, h0.2.1, h0.2.2⟩) (fun _ => rfl) (fun b h1 m hm => ?_)
    rcases envH_get (fr := fr) (u := u) (ns := ns) (hs := hs) (i := i + 1) (n := m) (E := E) with h2 | ⟨j, h', h2, h3, h4⟩
    · rw [h2] at hm; exact hb 0 b (by simp) (by rw [Nat.add_zero]; exact h1) m hm
    · rw [h4] at hm
      have hj : j < hs.length := (List.getElem?_eq_some_iff.1 h2).1
      have := hd 0 (j + 1) b (by simp) (by simpa using hj) (by rw [Nat.add_zero]; exact h1) (by rw [show i + (j + 1) = i + 1 + j by omega]; exact hm)
      omega
theorem InvO.drops (h : InvO ok N B w0 E a w) : ∀ ns : List Nat, InvO ok N B w0 (Rd.drops ns E) a w
  | [] => h
  | n :: ns => (InvO.drops h ns).forget1 n
theorem get_drops {m : Nat} : ∀ {ns : List Nat}, get (Rd.drops ns E) m = get E m ∧ m ∉ ns ∨ get (Rd.drops ns E) m = .undef
  | [] => .inl ⟨rfl, by simp⟩
  | n :: ns => by
    simp only [Rd.drops, List.foldr_cons]
    rw [get_drop1]
    split
    · exact .inr rfl
    · rename_i hne
      rcases get_drops (m := m) (ns := ns) with ⟨h1, h2⟩ | h1
      · exact .inl ⟨h1, by simp only [List.mem_cons]; rintro (h | h); exact hne (.inl h.symm); exact h2 h⟩
      · exact .inr h1
theorem get_drops_in {m : Nat} {ns : List Nat} (h : m ∈ ns) : get (Rd.drops ns E) m = .undef := by
  rcases get_drops (E := E) (m := m) (ns := ns) with ⟨_, h2⟩ | h1
  · exact absurd h h2
  · exact h1
theorem getH_at {fr : Nat → Bool} {u : Gh} : ∀ {ns : List Nat} {hs : List HT} {i : Nat}, GetH E fr u ns hs i → ns.length = hs.length ∧ ∀ (j : Nat) (h : HT), hs[j]? = some h → ∃ n, ns[j]? = some n ∧ get E n = h.slot (fr (i + j)) (u.1 (i + j)) (u.2 (i + j))
  | [], [], _, _ => by simp
  | [], _ :: _, _, h => h.elim
  | _ :: _, [], _, h => h.elim
  | n :: ns, q :: hs, i, h => by
    obtain ⟨h1, h2⟩ := getH_at h.2
    refine ⟨by simp [h1], fun j h' hj => ?_⟩
    cases j with
    | zero => simp at hj; subst hj; exact ⟨n, by simp, h.1⟩
    | succ j =>
      obtain ⟨n', h3, h4⟩ := h2 j h' (by simpa using hj)
      exact ⟨n', by simpa using h3, by rw [h4, show i + 1 + j = i + (j + 1) by omega]⟩
theorem callH_core {c : Call} {o : Oper} {f : FuncId} {xs : List X} {args : (Nat → Value) → List AV} {res : (Nat → Value) → List RV} {hin hout : List HT} {ms ns : List Nat} {fr0 : Bool} {u0 : Gh} (hI : InvO ok N B w0 E a w) (ho : o.op = .call c) (hc : c.callee = .value (.func f)) (hf : callable P f = true)
    (hm : mxs c.args.toList xs = true) (hg : GetH E (fun _ => fr0) u0 ms hin 0) (hms : (ms ++ ns).Nodup) (hns : ∀ n ∈ ns, get E n = .undef) (hln : ms.length + ns.length = hout.length) (hOK : CallsH P f hin hout args res) (hav : argsV E xs = some (args u0.1)) (hpure : argsPure E xs = true) (K : Act → World → Prop) (Q : Exit → Act → World → Prop)
    (hK : ∀ r w' ok' (u' : Gh), OkExt ok ok' w w' → (∀ i, i < ms.length → u'.1 i = u0.1 i) → InvO ok' N B w0 (envH (fun i => decide (ms.length ≤ i) || fr0) u' (ms ++ ns) hout 0 ++ drops ms E) a w' → ResOK w.heap.size ok' w' (res u'.1) r → K (a.put o.dst r) w') : o.wp P a w K Q := by
  unfold callable at hf
  split at hf
  case h_2 => exact (Bool.false_ne_true hf).elim
  rename_i fn hfn
  simp only [Bool.and_eq_true, bne_iff_ne, Option.isSome_iff_exists] at hf
  obtain ⟨hname, body, hbody⟩ := hf
  have hrun : (execOp a.eval o).run P w = .ok (.enter f (c.args.map a.eval)) w := by
    simp [execOp, ho, resolve, hc, Act.eval, Deferred.ofValue, invoke, callFunc, hfn, hname, hbody]
  unfold Oper.wp
  rw [hrun, Oper.upon_enter]
  have hargs := argsV_pure hI hm hav hpure
  obtain ⟨hl, hat⟩ := getH_at hg
  have hmsn : ms.Nodup := (List.nodup_append.1 hms).1
  have hslot : ∀ (i : Nat) (h : HT), hin[i]? = some h → ∃ n, ms[i]? = some n ∧ get E n = h.slot fr0 (u0.1 i) (u0.2 i) := fun i h hi => by simpa using hat i h hi
  have hblk : ∀ i, i < hin.length → ∀ b ∈ u0.2 i, ∃ n, ms[i]? = some n ∧ blkP (get E n) (tm a n) b := fun i hi b hb => by
    obtain ⟨n, h1, h2⟩ := hslot i hin[i] (List.getElem?_eq_getElem hi)
    exact ⟨n, h1, by rw [h2]; exact hb⟩
  have hall : HAll ok w hin u0 := by
    refine ⟨fun i h hi => ?_, fun i j b hi hj h1 h2 => ?_⟩
    · obtain ⟨n, h1, h2⟩ := hslot i h hi
      have hs := hI.slot n
      rw [h2] at hs
      exact ⟨hs.1, hs.2.1, fun b hb => ⟨(hs.2.2 b hb).1, (hs.2.2 b hb).2.2⟩⟩
    · obtain ⟨n, h3, h4⟩ := hblk i hi b h1
      obtain ⟨m, h5, h6⟩ := hblk j hj b h2
      have := hI.apart n m b h4 h6
      subst this
      exact nodup_idx hmsn h3 h5
  refine (hOK ok w (c.args.map a.eval) u0 hI.okLt (by simpa using hargs) hall).mono ?_
  rintro x w' ⟨r, ok', u', rfl, hb, hext, hr, hall', hval, hnew⟩
  refine hK r w' ok' u' hext (fun i hi => hval i (by omega)) ?_ hr
  have hlow : ∀ i b, i < hin.length → b ∈ u0.2 i → ¬ ok b ∧ (B.n ≤ b ∨ (fr0 = false ∧ B.L b)) ∧ b < w.heap.size := fun i b hi hb => by
    obtain ⟨n, h1, h2⟩ := hslot i hin[i] (List.getElem?_eq_getElem hi)
    have hs := hI.slot n
    rw [h2] at hs
    exact hs.2.2 b hb
  have h1 := hI.drops ms
  have hdis : ∀ n b, blkP (get (drops ms E) n) (tm a n) b → ¬ ∃ i, i < hin.length ∧ b ∈ u0.2 i := fun n b hn => by
    rintro ⟨i, hi, hbi⟩
    obtain ⟨m, h3, h4⟩ := hblk i hi b hbi
    rcases get_drops (E := E) (m := n) (ns := ms) with ⟨h5, h6⟩ | h5
    · rw [h5] at hn
      have := hI.apart n m b hn h4
      subst this
      exact h6 (List.mem_of_getElem? h3)
    · rw [h5] at hn; simp [blkP] at hn
  have h2 := h1.frame (D := fun b => ∃ i, i < hin.length ∧ b ∈ u0.2 i) hb hext (fun b ⟨i, hi, hbi⟩ => ⟨(hlow i b hi hbi).1, (hlow i b hi hbi).2.1.imp_right (·.2)⟩) hdis
  refine h2.addHs (ms ++ ns) hout 0 hms (fun n hn => ?_) (fun j h hj => ?_) (fun j k b hj hk h3 h4 => ?_) (fun j b hj h3 n hn => ?_)
  · rcases List.mem_append.1 hn with hn | hn
    · exact get_drops_in hn
    · rcases get_drops (E := E) (m := n) (ns := ms) with ⟨h5, _⟩ | h5
      · rw [h5]; exact hns n hn
      · exact h5
  · have h3 := hall'.1 j h hj
    have hjl : j < hout.length := (List.getElem?_eq_some_iff.1 hj).1
    simp only [Nat.zero_add]
    refine ⟨h3.1, h3.2.1, fun b hbj => ⟨(h3.2.2 b hbj).1, ?_, (h3.2.2 b hbj).2⟩⟩
    rcases hnew j b hjl hbj with h4 | ⟨h4, k, hk, h5⟩
    · exact .inl (Nat.le_trans hI.base h4)
    · rcases (hlow k b hk h5).2.1 with h6 | ⟨h6, h7⟩
      · exact .inl h6
      · refine .inr ⟨?_, h7⟩
        simp [h6]; omega
  · simp only [Nat.zero_add] at h3 h4; exact hall'.2 j k b hj hk h3 h4
  · simp only [Nat.zero_add] at h3
    rcases hnew j b hj h3 with h4 | ⟨_, k, hk, h5⟩
    · have := (blk_lt h1 hn).2.1; omega
    · exact hdis n b hn ⟨k, hk, h5⟩
def patch (k : Nat) (f g : Nat → Value) (i : Nat) : Value := if i < k then f i else g i
theorem sem_callH {d : Nat} {s : (Nat → Value) → Slot} {f : FuncId} {xs : List X} {args : (Nat → Value) → List AV} {res : (Nat → Value) → List RV} {hin hout : List HT} (ms ns : List Nat) {fr0 : Bool} {u0 : Gh} (hOK : CallsH P f hin hout args res)
    (hg : GetH E (fun _ => fr0) u0 ms hin 0) (hms : (ms ++ ns).Nodup) (hns : ∀ n ∈ ns, get E n = .undef) (hln : ms.length + ns.length = hout.length) (hav : argsV E xs = some (args u0.1)) (hpure : argsPure E xs = true)
    (hs : ∀ v, resSlot (res v) = some (s v)) (hn : ∀ v, noOwn (res v) = true) (hd : (get E d).excl = false) (hdm : d ∉ ms ++ ns) :
    SemStep P (some d) (.call f xs) E (fun u => (d, s (patch ms.length u0.1 u.1)) :: (envH (fun i => decide (ms.length ≤ i) || fr0) (patch ms.length u0.1 u.1, u.2) (ms ++ ns) hout 0 ++ drops ms E)) := by
  intro ok N B w0 a w o hI hdst hdN hc K Q hK
  obtain ⟨c, hop, hcal, hcb, hm⟩ := chk_call hc
  refine callH_core hI hop hcal hcb hm hg hms hns hln hOK hav hpure K Q (fun r w' ok' u' hext hval hI' hr => hK u' ok' _ w' ?_ (fun b hb => (hext.new b hb).imp_right (fun h1 => Nat.le_trans hI.base h1)))
  have hpv : patch ms.length u0.1 u'.1 = u'.1 := by
    funext i
    unfold patch
    split
    · rename_i hi; exact (hval i hi).symm
    · rfl
  show InvO ok' N B w0 ((d, s (patch ms.length u0.1 u'.1)) :: (envH (fun i => decide (ms.length ≤ i) || fr0) (patch ms.length u0.1 u'.1, u'.2) (ms ++ ns) hout 0 ++ drops ms E)) (a.put o.dst r) w'
  rw [hpv, hdst]
  have hsp := resSlot_excl (hs u'.1)
  refine hI'.put (hdN d rfl) ?_ (resSlot_ok (hs u'.1) (hn u'.1) hr a _) (fun b hb => absurd hb (blkP_none hsp))
  refine okPut_of ?_ _
  rw [envH_not hdm]
  rcases get_drops (E := E) (m := d) (ns := ms) with ⟨h5, _⟩ | h5
  · rw [h5]; exact hd
  · rw [h5]; rfl
end
/-! ### Views -/
mutual
def DV.frz : DV → DV
  | .own _ sz _ rows => .sl sz (frzRows rows)
  | d => d
def frzRow : List DV → List DV
  | [] => []
  | d :: ds => d.frz :: frzRow ds
def frzRows : List (List DV) → List (List DV)
  | [] => []
  | r :: rs => frzRow r :: frzRows rs
end
theorem frzRow_len : ∀ ds : List DV, (frzRow ds).length = ds.length
  | [] => rfl
  | d :: ds => by simp [frzRow, frzRow_len ds]
theorem frzRows_len : ∀ rs : List (List DV), (frzRows rs).length = rs.length
  | [] => rfl
  | r :: rs => by simp [frzRows, frzRows_len rs]
mutual
theorem XRep.frz {ok ok1 : Nat → Prop} {w : World} (ho : ∀ b, ok b → ok1 b) : ∀ (d : DV) (v : Value) (bs : List Nat), (∀ b ∈ bs, ok1 b) → XRep ok w d v bs → Rep ok1 w d.frz v
  | .bool _, _, _, _, h => by simp only [XRep] at h; simp only [DV.frz, Rep]; exact h.2
  | .int _ _, _, _, _, h => by simp only [XRep] at h; simp only [DV.frz, Rep]; exact h.2
  | .str _, _, _, _, h => by simp only [XRep] at h; simp only [DV.frz, Rep]; exact h.2
  | .val _, _, _, _, h => by simp only [XRep] at h; simp only [DV.frz, Rep]; exact h.2
  | .sl sz es, v, _, _, h => by
    simp only [XRep] at h; simp only [DV.frz]
    exact Rep.mono (fun b hb => ⟨ho b hb, fun _ => rfl⟩) _ _ h.2
  | .own e sz bys rows, v, bs, hb, h => by
    simp only [XRep] at h
    simp only [DV.frz, Rep, frzRows_len]
    rcases h with ⟨rfl, rfl, _⟩ | ⟨g, cap, cur, fs, rfl, h2, h3, _, _, rfl, h5⟩
    · exact ⟨none, 0, by simp, by simp, .inl (by simp [frzRows])⟩
    · refine ⟨_, cap, rfl, h3, .inr ⟨g, 0, rfl, hb g (by simp), ?_⟩⟩
      exact XRows.frz ho rows cur.toList fs g 0 (fun b hb' => hb b (by simp [hb'])) h5 (fun j u hj => by rw [cell_off h2]; simpa using hj)
theorem XRow.frz {ok ok1 : Nat → Prop} {w : World} (ho : ∀ b, ok b → ok1 b) : ∀ (ds : List DV) (xs : List Value) (fs : List Nat) (g o : Nat), (∀ b ∈ fs, ok1 b) → XRow ok w ds xs fs → (∀ j u, xs[j]? = some u → w.cell? ⟨g, o + j, none⟩ = some u) → RepRow ok1 w g (frzRow ds) o
  | [], _, _, _, _, _, _, _ => by simp [frzRow, RepRow]
  | d :: ds, xs, fs, g, o, hb, h, hc => by
    simp only [XRow] at h
    obtain ⟨x, ys, f1, f2, rfl, rfl, h3, h4⟩ := h
    simp only [frzRow, RepRow]
    refine ⟨⟨x, by simpa using hc 0 x (by simp), XRep.frz ho d x f1 (fun b hb' => hb b (by simp [hb'])) h3⟩, XRow.frz ho ds ys f2 g (o + 1) (fun b hb' => hb b (by simp [hb'])) h4 (fun j u hj => ?_)⟩
    have := hc (j + 1) u (by simpa using hj)
    rw [show o + 1 + j = o + (j + 1) by omega]; exact this
theorem XRows.frz {ok ok1 : Nat → Prop} {w : World} (ho : ∀ b, ok b → ok1 b) {sz : Nat} : ∀ (rs : List (List DV)) (xs : List Value) (fs : List Nat) (g o : Nat), (∀ b ∈ fs, ok1 b) → XRows ok w sz rs xs fs → (∀ j u, xs[j]? = some u → w.cell? ⟨g, o + j, none⟩ = some u) → RepRows ok1 w sz g (frzRows rs) o
  | [], _, _, _, _, _, _, _ => by simp [frzRows, RepRows]
  | r :: rs, xs, fs, g, o, hb, h, hc => by
    simp only [XRows] at h
    obtain ⟨f1, f2, hl, rfl, h3, h4⟩ := h
    simp only [frzRows, RepRows]
    refine ⟨by rw [frzRow_len]; exact hl, XRow.frz ho r xs f1 g o (fun b hb' => hb b (by simp [hb'])) h3 hc, XRows.frz ho rs (xs.drop sz) f2 g (o + sz) (fun b hb' => hb b (by simp [hb'])) h4 (fun j u hj => ?_)⟩
    have := hc (sz + j) u (by rw [List.getElem?_drop] at hj; exact hj)
    rw [show o + sz + j = o + (sz + j) by omega]; exact this
end
def DV.free : DV → Bool
  | .sl _ es => es.isEmpty
  | .own .. => false
  | _ => true
theorem Rep.free {ok ok1 : Nat → Prop} {w : World} {d : DV} {v : Value} (hd : d.free = true) (h : Rep ok w d v) : Rep ok1 w d v := by
  cases d with
  | sl sz es =>
    simp only [DV.free, List.isEmpty_iff] at hd
    subst hd
    simp only [Rep] at h ⊢
    obtain ⟨a, cap, h1, h2, _⟩ := h
    exact ⟨a, cap, h1, h2, by simp⟩
  | own => simp [DV.free] at hd
  | _ => simpa [Rep] using h
mutual
def DV.freeT : DV → Bool
  | .own _ _ _ rows => freeRows rows
  | d => d.free
def freeRow : List DV → Bool
  | [] => true
  | d :: ds => d.freeT && freeRow ds
def freeRows : List (List DV) → Bool
  | [] => true
  | r :: rs => freeRow r && freeRows rs
end
mutual
theorem XRep.free {ok ok1 : Nat → Prop} {w : World} : ∀ (d : DV) (v : Value) (bs : List Nat), d.freeT = true → XRep ok w d v bs → XRep ok1 w d v bs
  | .bool _, _, _, _, h => by simpa [XRep] using h
  | .int _ _, _, _, _, h => by simpa [XRep] using h
  | .str _, _, _, _, h => by simpa [XRep] using h
  | .val _, _, _, _, h => by simp only [XRep] at h ⊢; exact h
  | .sl sz es, v, _, hd, h => by
    simp only [XRep] at h ⊢
    exact ⟨h.1, Rep.free (by simpa [DV.freeT] using hd) h.2⟩
  | .own e sz bys rows, v, bs, hd, h => by
    simp only [DV.freeT] at hd
    simp only [XRep] at h ⊢
    refine h.imp_right ?_
    rintro ⟨g, cap, cur, fs, h1, h2, h3, h4, h5, h6, h7⟩
    exact ⟨g, cap, cur, fs, h1, h2, h3, h4, h5, h6, XRows.free rows _ fs hd h7⟩
theorem XRow.free {ok ok1 : Nat → Prop} {w : World} : ∀ (ds : List DV) (xs : List Value) (fs : List Nat), freeRow ds = true → XRow ok w ds xs fs → XRow ok1 w ds xs fs
  | [], _, _, _, h => by simpa [XRow] using h
  | d :: ds, xs, fs, hd, h => by
    simp only [freeRow, Bool.and_eq_true] at hd
    simp only [XRow] at h ⊢
    obtain ⟨x, ys, f1, f2, h1, h2, h3, h4⟩ := h
    exact ⟨x, ys, f1, f2, h1, h2, XRep.free d x f1 hd.1 h3, XRow.free ds ys f2 hd.2 h4⟩
theorem XRows.free {ok ok1 : Nat → Prop} {w : World} {sz : Nat} : ∀ (rs : List (List DV)) (xs : List Value) (fs : List Nat), freeRows rs = true → XRows ok w sz rs xs fs → XRows ok1 w sz rs xs fs
  | [], _, _, _, h => by simpa [XRows] using h
  | r :: rs, xs, fs, hd, h => by
    simp only [freeRows, Bool.and_eq_true] at hd
    simp only [XRows] at h ⊢
    obtain ⟨f1, f2, h0, h2, h3, h4⟩ := h
    exact ⟨f1, f2, h0, h2, XRow.free r xs f1 hd.1 h3, XRows.free rs _ f2 hd.2 h4⟩
end
inductive VwD (E : Env) : DV → DV → Prop
  | same (d : DV) : VwD E d d
  | heap {m : Nat} {fr : Bool} {v : Value} {bs : List Nat} {e sz bys : Nat} {es es' : List (List DV)} : get E m = .heap fr v bs e sz bys es → frzRows es = es' → VwD E (.val v) (.sl sz es')
inductive VwA (E : Env) : AV → AV → Prop
  | same (a : AV) : VwA E a a
  | v {d d' : DV} : VwD E d d' → VwA E (.v d) (.v d')
  | agg {ds ds' : List DV} : All2 (VwD E) ds ds' → VwA E (.agg ds) (.agg ds')
section
variable {P : Program} {ok : Nat → Prop} {N : Nat} {B : Bd} {w0 : World} {E : Env} {a : Act} {w : World}
def okH (ok : Nat → Prop) (E : Env) (b : Nat) : Prop := ok b ∨ ∃ n fr v bs e sz bys es, get E n = .heap fr v bs e sz bys es ∧ b ∈ bs
theorem okH_lt (h : InvO ok N B w0 E a w) : ∀ b, okH ok E b → b < w.heap.size := by
  rintro b (hb | ⟨n, fr, v, bs, e, sz, bys, es, hg, hb⟩)
  · exact h.okLt b hb
  · have hs := h.slot n
    rw [hg] at hs
    exact (hs.2.2 b hb).2.2
theorem vwD_ok (h : InvO ok N B w0 E a w) {d d' : DV} {x : Value} (hv : VwD E d d') (hr : Rep ok w d x) : Rep (okH ok E) w d' x := by
  cases hv with
  | same => exact Rep.mono (fun b hb => ⟨.inl hb, fun _ => rfl⟩) _ _ hr
  | @heap m fr v bs e sz bys es es' hg he =>
    simp only [Rep] at hr
    have hs := h.slot m
    rw [hg] at hs
    have := XRep.frz (ok1 := okH ok E) (fun b hb => .inl hb) _ _ bs (fun b hb => .inr ⟨m, fr, v, bs, e, sz, bys, es, hg, hb⟩) hs.1
    simp only [DV.frz, he] at this
    rw [hr.1]; exact this
theorem vwA_ok (h : InvO ok N B w0 E a w) {d d' : AV} {x : Value} (hv : VwA E d d') (hr : ArgOK ok w d x) : ArgOK (okH ok E) w d' x := by
  have hk : Keeps ok (okH ok E) w w := fun b hb => ⟨.inl hb, fun _ => rfl⟩
  cases hv with
  | same =>
    cases d with
    | v d => exact Rep.mono hk _ _ hr
    | agg ds => exact AggRep.mono hk hr
    | row ds => obtain ⟨b, o, h1, h2, h3⟩ := hr; exact ⟨b, o, h1, .inl h2, RepRow.mono hk b h2 ds o h3⟩
    | clo f caps => exact CloOK.mono hk hr
  | v hv => exact vwD_ok h hv hr
  | @agg ds ds' hv =>
    obtain ⟨cs, h1, h2⟩ := hr
    refine ⟨cs, h1, ?_⟩
    generalize cs.toList = xs at h2
    induction ds generalizing ds' xs with
    | nil => cases ds' <;> cases xs <;> simp_all [All2]
    | cons d ds ih =>
      cases ds' with
      | nil => exact hv.elim
      | cons d' ds' =>
        cases xs with
        | nil => exact h2.elim
        | cons x xs => exact ⟨vwD_ok h hv.1 h2.1, ih hv.2 xs h2.2⟩
theorem vwA_all (h : InvO ok N B w0 E a w) : ∀ {as as' : List AV} {xs : List Value}, All2 (VwA E) as as' → All2 (ArgOK ok w) as xs → All2 (ArgOK (okH ok E) w) as' xs
  | [], [], [], _, _ => trivial
  | [], _ :: _, _, hv, _ => hv.elim
  | _ :: _, [], _, hv, _ => hv.elim
  | [], [], _ :: _, _, hr => hr.elim
  | _ :: _, _ :: _, [], _, hr => hr.elim
  | _ :: _, _ :: _, _ :: _, hv, hr => ⟨vwA_ok h hv.1 hr.1, vwA_all h hv.2 hr.2⟩
def RV.free : RV → Bool
  | .v d => d.free
  | .agg ds => ds.all DV.free
  | .own .. => false
theorem rvok_free {B0 : Nat} {ok1 : Nat → Prop} {r : RV} {v : Value} (hf : r.free = true) (h : RVOK B0 ok1 w r v) : RVOK B0 ok w r v := by
  cases r with
  | v d => exact Rep.free hf h
  | agg ds =>
    obtain ⟨cs, h1, h2⟩ := h
    refine ⟨cs, h1, ?_⟩
    simp only [RV.free] at hf
    generalize cs.toList = xs at h2
    induction ds generalizing xs with
    | nil => cases xs <;> simp_all [All2]
    | cons d ds ih =>
      cases xs with
      | nil => exact h2.elim
      | cons x xs =>
        simp only [List.all_cons, Bool.and_eq_true] at hf
        exact ⟨Rep.free hf.1 h2.1, ih hf.2 xs h2.2⟩
  | own => simp [RV.free] at hf
theorem resok_free {B0 : Nat} {ok1 : Nat → Prop} {rs : List RV} {v : Value} (hf : rs.all RV.free = true) (h : ResOK B0 ok1 w rs v) : ResOK B0 ok w rs v := by
  have hm : ∀ (rs : List RV) (xs : List Value), rs.all RV.free = true → All2 (RVOK B0 ok1 w) rs xs → All2 (RVOK B0 ok w) rs xs := by
    intro rs
    induction rs with
    | nil => intro xs _ h; cases xs <;> simp_all [All2]
    | cons r rs ih =>
      intro xs hf h
      cases xs with
      | nil => exact h.elim
      | cons x xs =>
        simp only [List.all_cons, Bool.and_eq_true] at hf
        exact ⟨rvok_free hf.1 h.1, ih xs hf.2 h.2⟩
  match rs, h with
  | [], h => obtain ⟨vs, h1, h2⟩ := h; exact ⟨vs, h1, hm _ _ hf h2⟩
  | [r], h =>
    simp only [List.all_cons, List.all_nil, Bool.and_true] at hf
    exact rvok_free (r := r) hf h
  | r :: r' :: rs, h => obtain ⟨vs, h1, h2⟩ := h; exact ⟨vs, h1, hm _ _ hf h2⟩
theorem sem_callV {d : Nat} {s : (Nat → Value) → Slot} {f : FuncId} {xs : List X} {args0 args : List AV} {res : (Nat → Value) → List RV} {hout : List HT} (ns : List Nat) (hOK : CallsH P f [] hout (fun _ => args) res)
    (hns : ns.Nodup) (hnu : ∀ n ∈ ns, get E n = .undef) (hln : ns.length = hout.length) (hav : argsV E xs = some args0) (hpure : argsPure E xs = true) (hvw : All2 (VwA E) args0 args)
    (hs : ∀ v, resSlot (res v) = some (s v)) (hn : ∀ v, noOwn (res v) = true) (hfr : ∀ v, (res v).all RV.free = true) (hft : ∀ h ∈ hout, freeRows h.es = true) (hd : (get E d).excl = false) (hdm : d ∉ ns) :
    SemStep P (some d) (.call f xs) E (fun u => (d, s u.1) :: (envH (fun _ => true) u ns hout 0 ++ E)) := by
  intro ok N B w0 a w o hI hdst hdN hc K Q hK
  obtain ⟨c, ho, hcal, hf, hm⟩ := chk_call hc
  unfold callable at hf
  split at hf
  case h_2 => exact (Bool.false_ne_true hf).elim
  rename_i fn hfn
  simp only [Bool.and_eq_true, bne_iff_ne, Option.isSome_iff_exists] at hf
  obtain ⟨hname, body, hbody⟩ := hf
  have hrun : (execOp a.eval o).run P w = .ok (.enter f (c.args.map a.eval)) w := by
    simp [execOp, ho, resolve, hcal, Act.eval, Deferred.ofValue, invoke, callFunc, hfn, hname, hbody]
  unfold Oper.wp
  rw [hrun, Oper.upon_enter]
  have hargs := vwA_all hI hvw (argsV_pure hI hm hav hpure)
  refine (hOK (okH ok E) w (c.args.map a.eval) (fun _ => .bool false, fun _ => []) (okH_lt hI) (by simpa using hargs) ⟨by simp, by simp⟩).mono ?_
  rintro x w' ⟨r, ok', u', rfl, hb, hext, hr, hall', _, hnew⟩
  refine hK u' ok _ w' ?_ (fun b hb => .inl hb)
  have hbelow : Below w.heap.size w w' := ⟨hb.os, hb.tape, hb.output, hb.size, fun k hk => hb.block k hk (by simp)⟩
  have hx : OkExt ok ok w w' := ⟨fun _ h => h, fun _ h => .inl h, fun b hb' => Nat.lt_of_lt_of_le (hI.okLt b hb') hb.size⟩
  have h1 := hI.grow hbelow hx
  have hnewb : ∀ j b, j < hout.length → b ∈ u'.2 j → w.heap.size ≤ b := fun j b hj hbj => (hnew j b hj hbj).elim id (fun h => by simp at h)
  have h2 := h1.addHs (fr := fun _ => true) (u := u') ns hout 0 hns hnu (fun j h hj => by
      have h3 := hall'.1 j h hj
      have hjl : j < hout.length := (List.getElem?_eq_some_iff.1 hj).1
      simp only [Nat.zero_add]
      refine ⟨XRep.free _ _ _ (by simp only [DV.freeT]; exact hft h (List.mem_of_getElem? hj)) h3.1, h3.2.1, fun b hbj => ⟨fun hob => ?_, .inl (Nat.le_trans hI.base (hnewb j b hjl hbj)), (h3.2.2 b hbj).2⟩⟩
      have := hI.okLt b hob; have := hnewb j b hjl hbj; omega) (fun j k b hj hk h3 h4 => by simp only [Nat.zero_add] at h3 h4; exact hall'.2 j k b hj hk h3 h4) (fun j b hj h3 n hn => by
      simp only [Nat.zero_add] at h3
      have := (blk_lt hI hn).2.1; have := hnewb j b hj h3; omega)
  show InvO ok N B w0 ((d, s u'.1) :: (envH (fun _ => true) u' ns hout 0 ++ E)) (a.put o.dst r) w'
  rw [hdst]
  have hsp := resSlot_excl (hs u'.1)
  refine h2.put (hdN d rfl) (okPut_of (by rw [envH_not hdm]; exact hd) _) (resSlot_ok (hs u'.1) (hn u'.1) (resok_free (hfr u'.1) hr) a _) (fun b hb => absurd hb (blkP_none hsp))
theorem callsH_of_ok {f : FuncId} {args : List AV} {rs : List RV} (h : CallsOK P f args rs) : CallsH P f [] [] (fun _ => args) (fun _ => rs) := by
  intro ok w vs u hlt ha _
  refine (h ok w vs hlt ha).mono ?_
  rintro x w' ⟨v, ok', rfl, h1, h2, h3, h4, h5⟩
  exact ⟨v, ok', (fun _ => .bool false, fun _ => []), rfl, ⟨h1.os, h1.tape, h1.output, h1.size, fun k hk _ => h1.block k hk⟩, ⟨h3, h4, h2⟩, h5, ⟨by simp, by simp⟩, by simp, by simp⟩
theorem callsH_of_own {f : FuncId} {args : List AV} {e sz bys : Nat} {es : List (List DV)} (h : CallsOK P f args [.own e sz bys es]) : CallsH P f [] [⟨e, sz, bys, es⟩] (fun _ => args) (fun v => [.v (.val (v 0))]) := by
  intro ok w vs u hlt ha _
  refine (h ok w vs hlt ha).mono ?_
  rintro x w' ⟨v, ok', rfl, h1, h2, h3, h4, h5⟩
  have hs' : OwnRep w.heap.size ok' w' e sz es v := h5
  obtain ⟨bs, hx, hnd, hall, hsl⟩ : ∃ bs : List Nat, XRep ok' w' (.own e sz bys es) v bs ∧ bs.Nodup ∧ (∀ b ∈ bs, ¬ ok' b ∧ w.heap.size ≤ b ∧ b < w'.heap.size) ∧ ∃ q n c, v = .slice q n c := by
    rcases own_full hs' with ⟨h2, h3⟩ | ⟨g, cap, cur, h2, hB, hh, hc, hcm, hcs, hno, hr⟩
    · exact ⟨[], by simp only [XRep]; exact .inl ⟨h2, h3, trivial⟩, by simp, by simp, ⟨_, _, _, h2⟩⟩
    · have hfl : flatRows es := fun r hr' x hx => all2_flat hr x (List.mem_flatten.2 ⟨r, hr', hx⟩)
      refine ⟨[g], ?_, by simp, fun b hb => ?_, ⟨_, _, _, h2⟩⟩
      · simp only [XRep]
        refine .inr ⟨g, cap, cur, [], h2, hh, hc, hcm, hcs, rfl, xrows_of hfl hs'.1 ?_ hr⟩
        have := Nat.mul_le_mul_right sz hc
        simp; omega
      · simp only [List.mem_singleton] at hb; subst hb
        exact ⟨hno, hB, (Array.getElem?_eq_some_iff.1 hh).1⟩
  refine ⟨v, ok', (fun _ => v, fun _ => bs), rfl, ⟨h1.os, h1.tape, h1.output, h1.size, fun k hk _ => h1.block k hk⟩, ⟨h3, h4, h2⟩, ?_, ⟨fun i h hi => ?_, fun i j b hi hj _ _ => ?_⟩, by simp, fun i b hi hb => .inl (hall b hb).2.1⟩
  · show Rep ok' w' (.val v) v
    simp only [Rep]
    exact ⟨trivial, oneV_sl hsl⟩
  · cases i with
    | zero => simp at hi; subst hi; exact ⟨hx, hnd, fun b hb => ⟨(hall b hb).1, (hall b hb).2.2⟩⟩
    | succ i => simp at hi
  · simp at hi hj; omega
theorem callsH_of_run {f : FuncId} {fn : Func} {c : CC} {rx : List RX} {args : (Nat → Value) → List AV} {res : (Nat → Value) → List RV} {hin hout : List HT} (ni no : List Nat) (hf : P.funcs[f]? = some fn) (hc : chkF P fn c rx = true)
    (hs : ∀ v, sizeXs P fn.results.toList (res v) = true) (hn : ∀ v, (args v).length ≤ fn.ntmps ∧ ∀ n ∈ ni, (args v).length ≤ n) (hni : ni.Nodup) (hno : no.Nodup)
    (hrun : ∀ u : Gh, RunQ P (fun E => ∃ u' : Gh, resP E rx = some (res u'.1) ∧ (∀ i, i < hin.length → u'.1 i = u.1 i) ∧ GetH E (fun i => decide (hin.length ≤ i)) u' no hout 0) [.code c] (envH (fun _ => false) u ni hin 0 ++ argEnv (args u.1) 0)) : CallsH P f hin hout args res := by
  unfold chkF at hc
  split at hc
  case h_2 => exact (Bool.false_ne_true hc).elim
  rename_i C hb
  simp only [Bool.and_eq_true] at hc
  intro ok w vs u hlt ha hall cs
  have h0 := entry_ok (N := fn.ntmps) hlt ha (hn u.1).1
  have hcase : ∀ n, (get (argEnv (args u.1) 0) n = .undef) ∨ ∃ av, get (argEnv (args u.1) 0) n = argSlot av := fun n => by
    rw [argEnv_get]
    cases (args u.1)[n - 0]? with
    | none => left; simp
    | some av => right; exact ⟨av, by simp⟩
  have h0' : InvO ok fn.ntmps ⟨w.heap.size, fun b => ∃ i, i < hin.length ∧ b ∈ u.2 i⟩ w (argEnv (args u.1) 0) { tmps := vs ++ Array.replicate (fn.ntmps - vs.size) undef, defers := [] } w :=
    ⟨h0.size, h0.defers, BelowL.refl _ _, h0.base, h0.okLt, fun n => by
      have hsl := h0.slot n
      rcases hcase n with h | ⟨av, h⟩
      · rw [h]; trivial
      · rw [h] at hsl ⊢
        cases av <;> exact hsl, h0.apart⟩
  have hI := h0'.addHs (fr := fun _ => false) (u := u) ni hin 0 hni (fun n hn' => by
      rw [argEnv_get, List.getElem?_eq_none (by have := (hn u.1).2 n hn'; omega)]; simp) (fun j h hj => by
      have h3 := hall.1 j h hj
      have hjl : j < hin.length := (List.getElem?_eq_some_iff.1 hj).1
      simp only [Nat.zero_add]
      exact ⟨h3.1, h3.2.1, fun b hb => ⟨(h3.2.2 b hb).1, .inr ⟨trivial, j, hjl, hb⟩, (h3.2.2 b hb).2⟩⟩) (fun j k b hj hk h3 h4 => by simp only [Nat.zero_add] at h3 h4; exact hall.2 j k b hj hk h3 h4) (fun j b hj h3 n hn' => by
      rcases hcase n with h | ⟨av, h⟩
      · rw [h] at hn'; simp [blkP] at hn'
      · rw [h] at hn'; cases av <;> simp [argSlot, blkP] at hn')
  let b : Frame := { (default : Frame) with fn := f, kind := .normal }
  have henter : Frame.enter P f vs .normal = b.at { tmps := vs ++ Array.replicate (fn.ntmps - vs.size) undef, defers := [] } [.code C] := by
    simp [Frame.enter, Frame.at, hf, hb, b]
  obtain ⟨E', ok', a', w', todo, h1, h2, ⟨u', h3, hval, hg⟩, h4⟩ := run_ok (b := b) (cs := cs) (hrun u) hI (K := [.code C]) ⟨hc.1, trivial⟩
  rw [← henter] at h4
  obtain ⟨rs, hm, hr⟩ := resP_ok h1 hc.2 h3 (hs u'.1)
  have hres := results_run (P := P) (a := a') (w := w') (fn := fn) hm
  obtain ⟨hgl, hgat⟩ := getH_at hg
  have hgs : ∀ (j : Nat) (h : HT), hout[j]? = some h → ∃ n, no[j]? = some n ∧ get E' n = h.slot (decide (hin.length ≤ j)) (u'.1 j) (u'.2 j) := fun j h hj => by simpa using hgat j h hj
  have hsz : w.heap.size ≤ w'.heap.size := h1.below.size
  refine ⟨.returned _, w', _, ⟨_, fun b => ok b ∨ ok' b, u', rfl, h1.below, ⟨fun b hb => .inl hb, fun b hb => ?_, fun b hb => ?_⟩, ?_, ⟨fun i h hi => ?_, fun i j b hi hj h5 h6 => ?_⟩, hval, fun i b hi hbi => ?_⟩, h4, rfl, rfl, h1.defers, rfl, fn, hf, hres⟩
  · rcases hb with hb | hb
    · exact .inl hb
    · exact h2 b hb
  · rcases hb with hb | hb
    · exact Nat.lt_of_lt_of_le (hlt b hb) hsz
    · exact h1.okLt b hb
  · have hm' : ∀ (rv : RV) (v : Value), RVOK w.heap.size ok' w' rv v → RVOK w.heap.size (fun b => ok b ∨ ok' b) w' rv v := fun rv v hh =>
      rvok_more (fun b hb => .inr hb) (fun b hB hb => hb.elim (fun hb => absurd (hlt b hb) (Nat.not_lt.2 hB)) id) hh
    match hrv : res u'.1, rs, hr with
    | [], [], _ => exact ⟨#[], rfl, trivial⟩
    | [rv], [u], hh => exact hm' rv u hh.1
    | r1 :: r2 :: rs', u1 :: u2 :: us, hh => exact ⟨(u1 :: u2 :: us).toArray, rfl, by simpa using hh.mono hm'⟩
  · obtain ⟨n, h5, h6⟩ := hgs i h hi
    have hsl := h1.slot n
    rw [h6] at hsl
    obtain ⟨hx', hnd', hall'⟩ := hsl
    refine ⟨XRep.mono (fun b hb => ⟨.inr hb, fun _ => rfl⟩) _ _ _ (fun _ _ => rfl) hx', hnd', fun b hb => ⟨?_, (hall' b hb).2.2⟩⟩
    rintro (hb' | hb')
    · rcases (hall' b hb).2.1 with h | ⟨_, k, hk, h7⟩
      · exact absurd (hlt b hb') (Nat.not_lt.2 h)
      · exact ((hall.1 k hin[k] (List.getElem?_eq_getElem hk)).2.2 b h7).1 hb'
    · exact (hall' b hb).1 hb'
  · obtain ⟨n, h7, h8⟩ := hgs i hout[i] (List.getElem?_eq_getElem hi)
    obtain ⟨m, h9, h10⟩ := hgs j hout[j] (List.getElem?_eq_getElem hj)
    have := h1.apart n m b (by rw [h8]; exact h5) (by rw [h10]; exact h6)
    subst this
    exact nodup_idx hno h7 h9
  · obtain ⟨n, h7, h8⟩ := hgs i hout[i] (List.getElem?_eq_getElem hi)
    have hsl := h1.slot n
    rw [h8] at hsl
    rcases (hsl.2.2 b hbi).2.1 with h | ⟨h, k, hk, h9⟩
    · exact .inl h
    · exact .inr ⟨by simpa using h, k, hk, h9⟩
end
end Go.Rd

namespace Go.Rd
open Go.RowKit
section
variable {P : Program} {Q : Env → Prop} {l : List GOp} {keep : List Nat} {k : List It} {E : Env}
theorem mid_callV0 {d : Nat} {s : Slot} {f : FuncId} {xs : List X} {args0 args : List AV} {rs : List RV} (hOK : CallsOK P f args rs) (hav : argsV E xs = some args0) (hpure : argsPure E xs = true) (hvw : All2 (VwA E) args0 args)
    (hs : resSlot rs = some s) (hn : noOwn rs = true) (hfr : rs.all RV.free = true) (hd : (get E d).excl = false) (hm : Mid 0 P Q l keep k ((d, s) :: E)) : Mid 0 P Q (⟨some d, none, .call f xs⟩ :: l) keep k E :=
  mid_sem (sem_callV [] (callsH_of_ok hOK) (by simp) (by simp) rfl hav hpure hvw (fun _ => hs) (fun _ => hn) (fun _ => hfr) (by simp) hd (by simp)) (fun _ => hm)
theorem mid_callV1 {d e sz bys : Nat} {es : List (List DV)} {s : Value → Slot} {f : FuncId} {xs : List X} {args0 args : List AV} {res : Value → List RV} (n : Nat) (hOK : CallsH P f [] [⟨e, sz, bys, es⟩] (fun _ => args) (fun u => res (u 0))) (hav : argsV E xs = some args0) (hpure : argsPure E xs = true) (hvw : All2 (VwA E) args0 args)
    (hs : ∀ v, resSlot (res v) = some (s v)) (hn : ∀ v, noOwn (res v) = true) (hfr : ∀ v, (res v).all RV.free = true) (hft : freeRows es = true) (hu : get E n = .undef) (hd : (get E d).excl = false) (hdn : d ≠ n) (hm : ∀ v bs, Mid 0 P Q l keep k ((d, s v) :: (n, .heap true v bs e sz bys es) :: E)) :
    Mid 0 P Q (⟨some d, none, .call f xs⟩ :: l) keep k E :=
  mid_sem (sem_callV (s := fun u => s (u 0)) [n] hOK (by simp) (by simpa using hu) rfl hav hpure hvw (fun u => hs (u 0)) (fun u => hn (u 0)) (fun u => hfr (u 0)) (by simpa using hft) hd (by simpa using hdn)) (fun u => hm (u.1 0) (u.2 0))
theorem callsOK_of_H {f : FuncId} {args : List AV} {rs : List RV} (h : CallsH P f [] [] (fun _ => args) (fun _ => rs)) : CallsOK P f args rs := by
  intro ok w vs hlt ha
  refine (h ok w vs (fun _ => .bool false, fun _ => []) hlt ha ⟨by simp, by simp⟩).mono ?_
  rintro x w' ⟨v, ok', u', rfl, h1, h2, h3, _⟩
  exact ⟨v, ok', rfl, ⟨h1.os, h1.tape, h1.output, h1.size, fun k hk => h1.block k hk (by simp)⟩, h2.lt, h2.up, h2.new, h3⟩
end
end Go.Rd

namespace Go.Rd
open Go.RowKit
section
variable {P : Program} {E : Env} {dst : Option Nat} {op : AOp}
theorem lo_frz {m e sz bys : Nat} {es : List (List DV)} {R S : List Nat} {W : List (Nat × Slot)} (hg : get E m = .own e sz bys es) (h : LocO P dst op ((m, .v (.sl sz es)) :: E) ⟨R, S, W⟩) : LocO P dst op E ⟨m :: R, m :: S, W ++ [(m, .v (.sl sz es))]⟩ := by
  intro E' h1 h2
  have hm := h1 m (by simp)
  have hnr := h2 m (by simp)
  obtain ⟨E1, h3, h4⟩ := h ((m, .v (.sl sz es)) :: E') (fun n hn => by
    simp only [get]
    split
    · rfl
    · exact h1 n (List.mem_cons_of_mem _ hn)) (fun n hn => by
    simp only [noRefs, Slot.points, Bool.not_false, Bool.true_and]
    exact h2 n (List.mem_cons_of_mem _ hn))
  refine ⟨E1, fun n => by rw [h3 n]; simp, ?_⟩
  intro ok N B w0 a w o hI hdst hdN hc K Q hK
  obtain ⟨ok', hn, hI', _⟩ := hI.freeze (by rw [hm]; exact hg)
  have hI2 : InvO ok' N B w0 ((m, .v (.sl sz es)) :: E') a w := hI'.congr (fun n => by
    simp only [get]
    split
    · rfl
    · rename_i hne; rw [get_drop_eq hnr]; simp only [get]; rw [if_neg hne])
  exact h4 ok' N B w0 a w o hI2 hdst hdN hc K Q (fun u ok2 a' w' hI3 hn2 => hK u ok2 a' w' hI3 (fun b hb => (hn2 b hb).elim (hn b) .inr))
end
section
variable {P : Program} {Q : Env → Prop} {cl : List (List Nat)} {l : List GOp} {keep : List Nat} {k : List It} {E : Env} {tr : List TrE}
def frzW (E : Env) : List Nat → Option (List (Nat × Slot))
  | [] => some []
  | m :: ms => match get E m with
    | .own _ sz _ es => match frzW ((m, .v (.sl sz es)) :: E) ms with
      | some W => some (W ++ [(m, .v (.sl sz es))])
      | none => none
    | _ => none
theorem lo_frzs {dst : Option Nat} {op : AOp} {R S : List Nat} {W : List (Nat × Slot)} : ∀ {ms : List Nat} {E : Env} {W0 : List (Nat × Slot)}, frzW E ms = some W0 → LocO P dst op (W0 ++ E) ⟨R, S, W⟩ → LocO P dst op E ⟨ms ++ R, ms ++ S, W ++ W0⟩
  | [], E, W0, h0, h => by simp only [frzW, Option.some.injEq] at h0; subst h0; simpa using h
  | m :: ms, E, W0, h0, h => by
    simp only [frzW] at h0
    split at h0
    case h_2 => simp at h0
    rename_i hg
    split at h0
    case h_2 => simp at h0
    rename_i W1 h1
    simp only [Option.some.injEq] at h0; subst h0
    have := lo_frz hg (lo_frzs h1 (by simpa using h))
    simpa using this
def AOp.lays : AOp → Bool
  | .bld .. | .bsl .. => true
  | _ => false
def nextAf (ms : List Nat) (g : GOp) (E : Env) : Option (TrE × Env) := match g with
  | ⟨dst, none, op⟩ => if op.lays = false then none else match frzW E ms with
    | some W0 => match catE W0 E with
      | some E0 => match nextO E0 dst op with
        | some (R, S, W) => match catE W W0, catE W E0 with
          | some W1, some E1 => some (⟨ms ++ R, ms ++ S, W1⟩, E1)
          | _, _ => none
        | none => none
      | none => none
    | none => none
  | _ => none
theorem goAf {g : GOp} {e : TrE} {E1 : Env} (ms : List Nat) (h : nextAf ms g E = some (e, E1)) (hm : AnyM P Q cl l keep k E1 (e :: tr)) : AnyM P Q cl (g :: l) keep k E tr := by
  unfold nextAf at h
  split at h
  · split at h
    case isTrue => simp at h
    split at h
    case h_2 => simp at h
    rename_i h0
    rw [catE_eq] at h
    simp only at h
    split at h
    case h_2 => simp at h
    rename_i h1
    rw [catE_eq, catE_eq] at h
    simp only [Option.some.injEq, Prod.mk.injEq] at h; obtain ⟨rfl, rfl⟩ := h
    rw [← List.append_assoc] at hm
    exact any_cons (loc_none (lo_frzs h0 (nextO_ok h1))) hm
  · simp at h
end
section
variable {P : Program} {Q : Env → Prop} {l : List GOp} {keep : List Nat} {k : List It} {E : Env}
theorem mid_callN {d e sz bys : Nat} {es : List (List DV)} {f : FuncId} {xs : List X} {args0 args : List AV} (n : Nat) (hOK : CallsOK P f args [.own e sz bys es]) (hav : argsV E xs = some args0) (hvw : All2 (VwA E) args0 args) (hpure : argsPure E xs = true) (hft : freeRows es = true)
    (hu : get E n = .undef) (hd : (get E d).excl = false) (hdn : d ≠ n) (hm : ∀ v bs, Mid 0 P Q l keep k ((d, .v (.val v)) :: (n, .heap true v bs e sz bys es) :: E)) :
    Mid 0 P Q (⟨some d, none, .call f xs⟩ :: l) keep k E :=
  mid_callV1 (res := fun v => [.v (.val v)]) n (callsH_of_own hOK) hav hpure hvw (fun _ => rfl) (fun _ => rfl) (fun _ => rfl) hft hu hd hdn hm
theorem vwA_same : ∀ (as : List AV), All2 (VwA E) as as
  | [] => trivial
  | a :: as => ⟨.same a, vwA_same as⟩
end
end Go.Rd

namespace Go.Rd
open Go.RowKit
section
variable {P : Program} {Q : Env → Prop} {l : List GOp} {keep : List Nat} {k : List It} {E : Env}
end
end Go.Rd

namespace Go.Rd
open Go.RowKit
section
variable {ok : Nat → Prop} {w : World}
theorem xown_sl {e sz bys : Nat} {rows : List (List DV)} {x : Value} {f : List Nat} (h : XRep ok w (.own e sz bys rows) x f) : ∃ a n c, x = .slice a n c := by
  simp only [XRep] at h
  rcases h with ⟨h, _⟩ | ⟨g, cap, cur, fs, h, _⟩
  · exact ⟨_, _, _, h⟩
  · exact ⟨_, _, _, h⟩
theorem xrow_open : ∀ {ds : List DV} {xs : List Value} {fs : List Nat}, XRow ok w ds xs fs → ∀ {o e sz bys : Nat} {rows : List (List DV)}, ds[o]? = some (.own e sz bys rows) →
    ∃ x p f q, fs = p ++ (f ++ q) ∧ XRep ok w (.own e sz bys rows) x f ∧ XRow ok w (ds.set o (.val x)) xs (p ++ q)
  | [], _, _, _, o, _, _, _, _, hd => by simp at hd
  | d :: ds, xs, fs, h, o, e, sz, bys, rows, hd => by
    simp only [XRow] at h
    obtain ⟨x, ys, f1, f2, rfl, rfl, h3, h4⟩ := h
    cases o with
    | zero =>
      simp at hd; subst hd
      refine ⟨x, [], f1, f2, rfl, h3, ?_⟩
      simp only [List.set_cons_zero, XRow, List.nil_append]
      exact ⟨x, ys, [], f2, rfl, rfl, by simp only [XRep]; exact ⟨trivial, trivial, oneV_sl (xown_sl h3)⟩, h4⟩
    | succ o =>
      obtain ⟨y, p, f, q, rfl, h5, h6⟩ := xrow_open h4 (o := o) (by simpa using hd)
      refine ⟨y, f1 ++ p, f, q, by simp, h5, ?_⟩
      simp only [List.set_cons_succ, XRow]
      exact ⟨x, ys, f1, p ++ q, rfl, by simp, h3, h6⟩
theorem xrows_open {sz : Nat} : ∀ {rs : List (List DV)} {xs : List Value} {fs : List Nat}, XRows ok w sz rs xs fs → ∀ {i o e z bys : Nat} {rows : List (List DV)}, (rs.getD i [])[o]? = some (.own e z bys rows) →
    ∃ x p f q, fs = p ++ (f ++ q) ∧ XRep ok w (.own e z bys rows) x f ∧ XRows ok w sz (rs.set i ((rs.getD i []).set o (.val x))) xs (p ++ q)
  | [], _, _, _, i, o, _, _, _, _, hd => by simp at hd
  | r :: rs, xs, fs, h, i, o, e, z, bys, rows, hd => by
    simp only [XRows] at h
    obtain ⟨f1, f2, h1, rfl, h3, h4⟩ := h
    cases i with
    | zero =>
      obtain ⟨x, p, f, q, rfl, h5, h6⟩ := xrow_open h3 (o := o) (by simpa using hd)
      refine ⟨x, p, f, q ++ f2, by simp, h5, ?_⟩
      simp only [List.getD_cons_zero, List.set_cons_zero, XRows]
      exact ⟨p ++ q, f2, by simpa using h1, by simp, h6, h4⟩
    | succ i =>
      obtain ⟨x, p, f, q, rfl, h5, h6⟩ := xrows_open h4 (i := i) (o := o) (by simpa using hd)
      refine ⟨x, f1 ++ p, f, q, by simp, h5, ?_⟩
      simp only [List.getD_cons_succ, List.set_cons_succ, XRows]
      exact ⟨f1, p ++ q, h1, by simp, h3, h6⟩
theorem xrow_close : ∀ {ds : List DV} {xs : List Value} {fs : List Nat}, XRow ok w ds xs fs → ∀ {o : Nat} {x : Value} {d : DV} {f : List Nat}, ds[o]? = some (.val x) → XRep ok w d x f →
    ∃ p q, fs = p ++ q ∧ XRow ok w (ds.set o d) xs (p ++ (f ++ q))
  | [], _, _, _, o, _, _, _, hd, _ => by simp at hd
  | d0 :: ds, xs, fs, h, o, x, d, f, hd, hx => by
    simp only [XRow] at h
    obtain ⟨u, ys, f1, f2, rfl, rfl, h3, h4⟩ := h
    cases o with
    | zero =>
      simp at hd; subst hd
      simp only [XRep] at h3
      obtain ⟨rfl, rfl, _⟩ := h3
      refine ⟨[], f2, rfl, ?_⟩
      simp only [List.set_cons_zero, XRow, List.nil_append]
      exact ⟨u, ys, f, f2, rfl, rfl, hx, h4⟩
    | succ o =>
      obtain ⟨p, q, rfl, h6⟩ := xrow_close h4 (o := o) (by simpa using hd) hx
      refine ⟨f1 ++ p, q, by simp, ?_⟩
      simp only [List.set_cons_succ, XRow]
      exact ⟨u, ys, f1, p ++ (f ++ q), rfl, by simp, h3, h6⟩
theorem xrows_close {sz : Nat} : ∀ {rs : List (List DV)} {xs : List Value} {fs : List Nat}, XRows ok w sz rs xs fs → ∀ {i o : Nat} {x : Value} {d : DV} {f : List Nat}, (rs.getD i [])[o]? = some (.val x) → XRep ok w d x f →
    ∃ p q, fs = p ++ q ∧ XRows ok w sz (rs.set i ((rs.getD i []).set o d)) xs (p ++ (f ++ q))
  | [], _, _, _, i, o, _, _, _, hd, _ => by simp at hd
  | r :: rs, xs, fs, h, i, o, x, d, f, hd, hx => by
    simp only [XRows] at h
    obtain ⟨f1, f2, h1, rfl, h3, h4⟩ := h
    cases i with
    | zero =>
      obtain ⟨p, q, rfl, h6⟩ := xrow_close h3 (o := o) (by simpa using hd) hx
      refine ⟨p, q ++ f2, by simp, ?_⟩
      simp only [List.getD_cons_zero, List.set_cons_zero, XRows]
      exact ⟨p ++ (f ++ q), f2, by simpa using h1, by simp, h6, h4⟩
    | succ i =>
      obtain ⟨p, q, rfl, h6⟩ := xrows_close h4 (i := i) (o := o) (by simpa using hd) hx
      refine ⟨f1 ++ p, q, by simp, ?_⟩
      simp only [List.getD_cons_succ, List.set_cons_succ, XRows]
      exact ⟨f1, p ++ (f ++ q), h1, by simp, h3, h6⟩
theorem xrow_skel : ∀ {ds : List DV} {xs : List Value} {fs : List Nat}, XRow ok w ds xs fs → ∃ ss : List DV, ss.length = ds.length ∧ All2 (Rep ok w) ss (xs.take ds.length) ∧
    ∀ ys : List Value, All2 (Rep ok w) ss (ys.take ds.length) → XRow ok w ds ys fs
  | [], xs, fs, h => by
    simp only [XRow] at h; subst h
    exact ⟨[], rfl, by simp [All2], fun ys _ => by simp [XRow]⟩
  | d :: ds, xs, fs, h => by
    simp only [XRow] at h
    obtain ⟨x, zs, f1, f2, rfl, rfl, h3, h4⟩ := h
    obtain ⟨ss, h5, h6, h7⟩ := xrow_skel h4
    have key : ∃ s : DV, Rep ok w s x ∧ ∀ y, Rep ok w s y → XRep ok w d y f1 := by
      by_cases hf : d.flat = true
      · obtain ⟨rfl, h8⟩ := (xrep_flat hf).1 h3
        exact ⟨d, h8, fun y hy => (xrep_flat hf).2 ⟨rfl, hy⟩⟩
      · cases d <;> try (exact absurd rfl hf)
        refine ⟨.val x, by simp only [Rep]; exact ⟨trivial, oneV_sl (xown_sl h3)⟩, fun y hy => ?_⟩
        simp only [Rep] at hy
        rw [hy.1]; exact h3
    obtain ⟨s, h8, h9⟩ := key
    refine ⟨s :: ss, by simp [h5], by simpa using ⟨h8, h6⟩, fun ys hy => ?_⟩
    cases ys with
    | nil => simp [All2] at hy
    | cons y ys =>
      simp only [List.length_cons, List.take_succ_cons] at hy
      simp only [XRow]
      exact ⟨y, ys, f1, f2, rfl, rfl, h9 y hy.1, h7 ys hy.2⟩
theorem all2_split {R : DV → Value → Prop} : ∀ {as bs : List DV} {xs : List Value}, All2 R (as ++ bs) xs → All2 R as (xs.take as.length) ∧ All2 R bs (xs.drop as.length)
  | [], bs, xs, h => by simpa [All2] using h
  | a :: as, bs, [], h => by simp [All2] at h
  | a :: as, bs, x :: xs, h => by
    obtain ⟨h1, h2⟩ := all2_split (as := as) h.2
    exact ⟨by simpa using ⟨h.1, h1⟩, by simpa using h2⟩
theorem xrows_skel {sz : Nat} : ∀ {rs : List (List DV)} {xs : List Value} {fs : List Nat}, XRows ok w sz rs xs fs → ∃ ss : List (List DV), ss.length = rs.length ∧ (∀ r ∈ ss, r.length = sz) ∧ All2 (Rep ok w) ss.flatten (xs.take (rs.length * sz)) ∧
    ∀ ys : List Value, All2 (Rep ok w) ss.flatten (ys.take (rs.length * sz)) → XRows ok w sz rs ys fs
  | [], xs, fs, h => by
    simp only [XRows] at h; subst h
    exact ⟨[], rfl, by simp, by simp [All2], fun ys _ => by simp [XRows]⟩
  | r :: rs, xs, fs, h => by
    simp only [XRows] at h
    obtain ⟨f1, f2, hl, rfl, h3, h4⟩ := h
    obtain ⟨s, h5, h6, h7⟩ := xrow_skel h3
    obtain ⟨ss, h8, h9, h10, h11⟩ := xrows_skel h4
    have e : ∀ xs : List Value, xs.take ((r :: rs).length * sz) = xs.take r.length ++ (xs.drop sz).take (rs.length * sz) := fun xs => by
      rw [List.length_cons, Nat.add_mul, Nat.one_mul, Nat.add_comm, ← hl, List.take_add]
    refine ⟨s :: ss, by simp [h8], fun q hq => ?_, ?_, fun ys hy => ?_⟩
    · rcases List.mem_cons.1 hq with rfl | hq
      · rw [h5]; exact hl
      · exact h9 q hq
    · rw [e, List.flatten_cons]; exact All2.append _ _ _ _ h6 h10
    · rw [List.flatten_cons] at hy
      have hlen := hy.length
      have h12 := all2_split hy
      rw [List.take_take, h5, Nat.min_eq_left (by rw [List.length_cons, Nat.add_mul, hl]; omega)] at h12
      simp only [XRows]
      refine ⟨f1, f2, hl, rfl, h7 ys h12.1, h11 _ ?_⟩
      have := h12.2
      rw [List.drop_take, hl, List.length_cons, Nat.add_mul, Nat.one_mul, Nat.add_sub_cancel] at this
      exact this
theorem xrows_take {sz : Nat} {rs : List (List DV)} {xs ys : List Value} {fs : List Nat} (h : XRows ok w sz rs xs fs) (he : ys.take (rs.length * sz) = xs.take (rs.length * sz)) : XRows ok w sz rs ys fs := by
  obtain ⟨ss, _, _, h3, h4⟩ := xrows_skel h
  exact h4 ys (by rw [he]; exact h3)
theorem xrows_append {sz : Nat} : ∀ {rs ns : List (List DV)} {xs ys : List Value} {fs : List Nat}, XRows ok w sz rs xs fs → XRows ok w sz ns ys [] → xs.length = rs.length * sz → XRows ok w sz (rs ++ ns) (xs ++ ys) fs
  | [], ns, xs, ys, fs, h, hn, hx => by
    simp only [XRows] at h; subst h
    have : xs = [] := List.eq_nil_of_length_eq_zero (by simpa using hx)
    subst this
    simpa using hn
  | r :: rs, ns, xs, ys, fs, h, hn, hx => by
    have hx' : xs.length = rs.length * sz + sz := by rw [hx, List.length_cons, Nat.add_mul, Nat.one_mul]
    simp only [XRows, List.cons_append] at h ⊢
    obtain ⟨f1, f2, hl, rfl, h3, h4⟩ := h
    refine ⟨f1, f2, hl, rfl, ?_, ?_⟩
    · obtain ⟨ss, _, h6, h7⟩ := xrow_skel h3
      refine h7 _ ?_
      rw [List.take_append_of_le_length (by omega)]; exact h6
    · rw [List.drop_append_of_le_length (by omega)]
      exact xrows_append h4 hn (by simp [hx'])
end
section
variable {P : Program} {ok : Nat → Prop} {N : Nat} {B : Bd} {w0 : World} {E : Env} {a : Act} {w : World}
theorem SlotOK.env {E' : Env} {s : Slot} {v : Value} (h1 : ∀ k, (∃ e sz bys es, get E k = .own e sz bys es) ∨ (∃ ds, get E k = .box ds) → get E' k = get E k)
    (h2 : ∀ k fr v0 bs e sz bys es, s.points k = true → get E k = .heap fr v0 bs e sz bys es → ∃ fr' bs' e' bys' es', get E' k = .heap fr' v0 bs' e' sz bys' es' ∧ es.length = es'.length) (h : SlotOK B ok w a E s v) : SlotOK B ok w a E' s v := by
  cases s with
  | al n =>
    obtain ⟨h3, e, sz, bys, es, h4⟩ := h
    exact ⟨h3, e, sz, bys, es, by rw [h1 n (.inl ⟨_, _, _, _, h4⟩)]; exact h4⟩
  | ref n o =>
    obtain ⟨b, ds, h3, h4, h5⟩ := h
    exact ⟨b, ds, h3, h4, by rw [h1 n (.inr ⟨_, h5⟩)]; exact h5⟩
  | oel n i o =>
    obtain ⟨b, len, cap, e, sz, bys, es, h3, h4, h5, h6⟩ := h
    exact ⟨b, len, cap, e, sz, bys, es, h3, h4, by rw [h1 n (.inl ⟨_, _, _, _, h5⟩)]; exact h5, h6⟩
  | gp m i o =>
    obtain ⟨b, len, cap, fr, v0, bs, e, sz, bys, es, h3, h4, h5, h6⟩ := h
    obtain ⟨fr', bs', e', bys', es', h7, h8⟩ := h2 m _ _ _ _ _ _ _ (by simp [Slot.points]) h3
    exact ⟨b, len, cap, fr', v0, bs', e', sz, bys', es', h7, h4, h5, by omega⟩
  | _ => exact h
theorem InvO.reenv (h : InvO ok N B w0 E a w) {E' : Env} (hs : ∀ k, SlotOK B ok w a E' (get E' k) (tm a k)) (hap : ∀ n m b, blkP (get E' n) (tm a n) b → blkP (get E' m) (tm a m) b → n = m) : InvO ok N B w0 E' a w :=
  ⟨h.size, h.defers, h.below, h.base, h.okLt, hs, hap⟩
theorem gh_open {m n i o e sz bys e2 sz2 bys2 : Nat} {fr : Bool} {v : Value} {bs : List Nat} {es es2 : List (List DV)} (hg : get E m = .heap fr v bs e sz bys es) (hd : (es.getD i [])[o]? = some (.own e2 sz2 bys2 es2)) (hn : get E n = .undef) :
    Ghost E (fun u => (m, .heap fr v (u.2 1) e sz bys (es.set i ((es.getD i []).set o (.val (u.1 0))))) :: (n, .heap fr (u.1 0) (u.2 0) e2 sz2 bys2 es2) :: E) := by
  intro ok N B w0 a w hI
  have hmn : m ≠ n := fun e => by subst e; rw [hg] at hn; simp at hn
  have hs := hI.slot m
  rw [hg] at hs
  obtain ⟨hx, hnd, hall⟩ := hs
  rcases heap_full hI hg with ⟨_, rfl, _⟩ | ⟨g, cap, cur, fs, hv, hh, hl, hmx, hcs, hb, hxr⟩
  · simp at hd
  obtain ⟨x, p, f, q, hfs, h5, h6⟩ := xrows_open hxr hd
  subst hfs
  refine ⟨(fun _ => x, fun j => if j = 0 then f else g :: (p ++ q)), ok, ?_, fun _ h => .inl h⟩
  simp only [Nat.one_ne_zero, if_false, if_true]
  have hmem : ∀ b, b ∈ g :: (p ++ q) → b ∈ bs := fun b hb' => by rw [hb]; simp only [List.mem_cons, List.mem_append] at hb' ⊢; rcases hb' with h | h | h <;> simp [h]
  have hmem2 : ∀ b, b ∈ f → b ∈ bs := fun b hb' => by rw [hb]; simp [hb']
  rw [hb] at hnd
  have hnd2 : (g :: (p ++ q)).Nodup := by
    rw [List.nodup_cons] at hnd ⊢
    refine ⟨fun h => hnd.1 (by simp only [List.mem_append] at h ⊢; rcases h with h | h <;> simp [h]), ?_⟩
    have := hnd.2
    rw [List.nodup_append] at this ⊢
    obtain ⟨h1, h2, h3⟩ := this
    exact ⟨h1, (List.nodup_append.1 h2).2.1, fun a ha b hb => h3 a ha b (by simp [hb])⟩
  have hndf : f.Nodup := by
    have := (List.nodup_cons.1 hnd).2
    exact (List.nodup_append.1 (List.nodup_append.1 this).2.1).1
  have hdis : ∀ b, b ∈ f → b ∉ g :: (p ++ q) := fun b hbf hbg => by
    have h1 := (List.nodup_cons.1 hnd)
    rcases List.mem_cons.1 hbg with rfl | hbg
    · exact h1.1 (by simp [hbf])
    · have h2 := List.nodup_append.1 h1.2
      rcases List.mem_append.1 hbg with h | h
      · exact h2.2.2 b h b (by simp [hbf]) rfl
      · exact (List.nodup_append.1 h2.2.1).2.2 b hbf b h rfl
  have hge : ∀ k, get ((m, Slot.heap fr v (g :: (p ++ q)) e sz bys (es.set i ((es.getD i []).set o (.val x)))) :: (n, .heap fr x f e2 sz2 bys2 es2) :: E) k = if m = k then Slot.heap fr v (g :: (p ++ q)) e sz bys (es.set i ((es.getD i []).set o (.val x))) else if n = k then .heap fr x f e2 sz2 bys2 es2 else get E k := fun k => by simp only [get]
  refine hI.reenv (fun k => ?_) (fun k l b h1 h2 => ?_)
  · rw [hge]
    split
    · refine ⟨?_, hnd2, fun b hb' => hall b (hmem b hb')⟩
      simp only [XRep]
      exact .inr ⟨g, cap, cur, p ++ q, by simpa using hv, hh, by simpa using hl, hmx, hcs, rfl, h6⟩
    · split
      · exact ⟨h5, hndf, fun b hb' => hall b (hmem2 b hb')⟩
      · refine (hI.slot k).env (fun j hj => ?_) (fun j fr' v0 bs' e' sz' bys' es' _ hj => ?_)
        · rw [hge]
          have h1 : m ≠ j := fun e => by subst e; rw [hg] at hj; simp at hj
          have h2 : n ≠ j := fun e => by subst e; rw [hn] at hj; simp at hj
          rw [if_neg h1, if_neg h2]
        · by_cases h1 : m = j
          · subst h1
            rw [hg] at hj
            simp only [Slot.heap.injEq] at hj
            obtain ⟨rfl, rfl, rfl, rfl, rfl, rfl, rfl⟩ := hj
            exact ⟨_, _, _, _, _, by rw [hge, if_pos rfl], by simp⟩
          · have h2 : n ≠ j := fun e => by subst e; rw [hn] at hj; simp at hj
            exact ⟨_, _, _, _, _, by rw [hge, if_neg h1, if_neg h2]; exact hj, rfl⟩
  · have key : ∀ k, blkP (get ((m, Slot.heap fr v (g :: (p ++ q)) e sz bys (es.set i ((es.getD i []).set o (.val x)))) :: (n, .heap fr x f e2 sz2 bys2 es2) :: E) k) (tm a k) b → (k = m ∧ b ∈ g :: (p ++ q)) ∨ (k = n ∧ b ∈ f) ∨ (k ≠ m ∧ k ≠ n ∧ blkP (get E k) (tm a k) b) := by
      intro k hk
      rw [hge] at hk
      split at hk
      · rename_i e; exact .inl ⟨e.symm, hk⟩
      · split at hk
        · rename_i e; exact .inr (.inl ⟨e.symm, hk⟩)
        · rename_i e1 e2; exact .inr (.inr ⟨Ne.symm e1, Ne.symm e2, hk⟩)
    have hm : ∀ b, b ∈ bs → blkP (get E m) (tm a m) b := fun b hb' => by rw [hg]; exact hb'
    rcases key k h1 with ⟨rfl, h3⟩ | ⟨rfl, h3⟩ | ⟨h3, h3', h3''⟩ <;> rcases key l h2 with ⟨h4, h5⟩ | ⟨h4, h5⟩ | ⟨h4, h4', h4''⟩
    · exact h4.symm
    · exact absurd h3 (hdis b h5)
    · exact absurd (hI.apart _ _ b h4'' (hm b (hmem b h3))) h4
    · exact absurd h5 (hdis b h3)
    · exact h4.symm
    · exact absurd (hI.apart _ _ b h4'' (hm b (hmem2 b h3))) h4
    · exact absurd (hI.apart _ _ b h3'' (hm b (hmem b h5))) h3
    · exact absurd (hI.apart _ _ b h3'' (hm b (hmem2 b h5))) h3
    · exact hI.apart _ _ b h3'' h4''
theorem gh_close {m n i o e sz bys e2 sz2 bys2 : Nat} {fr fr2 : Bool} {v v2 : Value} {bs bs2 : List Nat} {es es2 : List (List DV)} (hg : get E m = .heap fr v bs e sz bys es) (hd : (es.getD i [])[o]? = some (.val v2)) (hn : get E n = .heap fr2 v2 bs2 e2 sz2 bys2 es2) (hmn : m ≠ n) (hfr : fr = true → fr2 = true) :
    Ghost E (fun u => (m, .heap fr v (u.2 0) e sz bys (es.set i ((es.getD i []).set o (.own e2 sz2 bys2 es2)))) :: drop1 n E) := by
  intro ok N B w0 a w hI
  have hs := hI.slot m
  rw [hg] at hs
  obtain ⟨hx, hnd, hall⟩ := hs
  have hs2 := hI.slot n
  rw [hn] at hs2
  obtain ⟨hx2, hnd2, hall2⟩ := hs2
  rcases heap_full hI hg with ⟨_, rfl, _⟩ | ⟨g, cap, cur, fs, hv, hh, hl, hmx, hcs, hb, hxr⟩
  · simp at hd
  obtain ⟨p, q, hfs, h6⟩ := xrows_close hxr hd hx2
  subst hfs
  have hdis : ∀ b, b ∈ bs → b ∉ bs2 := fun b h1 h2 => hmn (hI.apart m n b (by rw [hg]; exact h1) (by rw [hn]; exact h2))
  have hmem : ∀ b, b ∈ g :: (p ++ (bs2 ++ q)) → b ∈ bs ∨ b ∈ bs2 := fun b hb' => by
    rw [hb]; simp only [List.mem_cons, List.mem_append] at hb' ⊢
    rcases hb' with h | h | h | h <;> simp [h]
  have hndN : (g :: (p ++ (bs2 ++ q))).Nodup := by
    have hb1 : ∀ b, b = g ∨ b ∈ p ∨ b ∈ q → b ∈ bs := fun b h => by rw [hb]; simp only [List.mem_cons, List.mem_append]; exact h
    rw [hb, List.nodup_cons] at hnd
    rw [List.nodup_cons]
    refine ⟨fun h => ?_, ?_⟩
    · simp only [List.mem_append] at h
      rcases h with h | h | h
      · exact hnd.1 (by simp [h])
      · exact hdis g (hb1 g (.inl rfl)) h
      · exact hnd.1 (by simp [h])
    · obtain ⟨h1, h2, h3⟩ := List.nodup_append.1 hnd.2
      rw [List.nodup_append]
      refine ⟨h1, List.nodup_append.2 ⟨hnd2, h2, fun x hx y hy e => ?_⟩, fun x hx y hy e => ?_⟩
      · subst e; exact hdis x (hb1 x (.inr (.inr hy))) hx
      · subst e
        rcases List.mem_append.1 hy with hy | hy
        · exact hdis x (hb1 x (.inr (.inl hx))) hy
        · exact h3 x hx x hy rfl
  refine ⟨(fun _ => .bool false, fun _ => g :: (p ++ (bs2 ++ q))), ok, ?_, fun _ h => .inl h⟩
  have h1 := hI.forget1 n
  have hgm : get (drop1 n E) m = .heap fr v bs e sz bys es := by
    rw [get_drop1, if_neg, hg]
    rw [hg]; simp [Slot.points, Ne.symm hmn]
  have hge : ∀ k, get ((m, Slot.heap fr v (g :: (p ++ (bs2 ++ q))) e sz bys (es.set i ((es.getD i []).set o (.own e2 sz2 bys2 es2)))) :: drop1 n E) k = if m = k then Slot.heap fr v (g :: (p ++ (bs2 ++ q))) e sz bys (es.set i ((es.getD i []).set o (.own e2 sz2 bys2 es2))) else get (drop1 n E) k := fun k => by simp only [get]
  refine h1.reenv (fun k => ?_) (fun k l b h3 h4 => ?_)
  · rw [hge]
    split
    · refine ⟨?_, hndN, fun b hb' => ?_⟩
      · simp only [XRep]
        exact .inr ⟨g, cap, cur, p ++ (bs2 ++ q), by simpa using hv, hh, by simpa using hl, hmx, hcs, rfl, h6⟩
      · rcases hmem b hb' with h | h
        · exact hall b h
        · obtain ⟨h5, h7, h8⟩ := hall2 b h
          refine ⟨h5, ?_, h8⟩
          rcases h7 with h7 | ⟨h7, h9⟩
          · exact .inl h7
          · right
            refine ⟨?_, h9⟩
            cases fr
            · rfl
            · rw [hfr rfl] at h7; simp at h7
    · refine (h1.slot k).env (fun j hj => ?_) (fun j fr' v0 bs' e' sz' bys' es' _ hj => ?_)
      · rw [hge]
        have h2 : m ≠ j := fun e => by subst e; rw [hgm] at hj; simp at hj
        rw [if_neg h2]
      · by_cases h2 : m = j
        · subst h2
          rw [hgm] at hj
          simp only [Slot.heap.injEq] at hj
          obtain ⟨rfl, rfl, rfl, rfl, rfl, rfl, rfl⟩ := hj
          exact ⟨_, _, _, _, _, by rw [hge, if_pos rfl], by simp⟩
        · exact ⟨_, _, _, _, _, by rw [hge, if_neg h2]; exact hj, rfl⟩
  · have key : ∀ k, blkP (get ((m, Slot.heap fr v (g :: (p ++ (bs2 ++ q))) e sz bys (es.set i ((es.getD i []).set o (.own e2 sz2 bys2 es2)))) :: drop1 n E) k) (tm a k) b → (k = m ∧ (blkP (get E m) (tm a m) b ∨ blkP (get E n) (tm a n) b)) ∨ (k ≠ m ∧ k ≠ n ∧ blkP (get E k) (tm a k) b) := by
      intro k hk
      rw [hge] at hk
      split at hk
      · rename_i e'
        refine .inl ⟨e'.symm, ?_⟩
        rw [hg, hn]
        exact hmem b hk
      · rename_i e'
        rw [get_drop1] at hk
        split at hk
        · simp [blkP] at hk
        · rename_i hne
          exact .inr ⟨Ne.symm e', fun e => hne (.inl e.symm), hk⟩
    rcases key k h3 with ⟨rfl, h5⟩ | ⟨h5, h5', h5''⟩ <;> rcases key l h4 with ⟨h7, h8⟩ | ⟨h7, h7', h7''⟩
    · exact h7.symm
    · rcases h5 with h5 | h5
      · exact absurd (hI.apart _ _ b h7'' h5) h7
      · exact absurd (hI.apart _ _ b h7'' h5) h7'
    · rcases h8 with h8 | h8
      · exact absurd (hI.apart _ _ b h5'' h8) h5
      · exact absurd (hI.apart _ _ b h5'' h8) h5'
    · exact hI.apart _ _ b h5'' h7''
end
end Go.Rd

namespace Go.Rd
open Go.RowKit
section
variable {P : Program} {ok : Nat → Prop} {N : Nat} {B : Bd} {w0 : World} {E : Env} {a : Act} {w : World}
theorem sem_appH {d m e sz bys : Nat} {x y : X} {v : Value} {bs : List Nat} {es es' : List (List DV)} (hx : vw E x = .v (.val v)) (hg : get E m = .heap true v bs e sz bys es) (hy : vw E y = .v (.sl sz es')) (hd : (get E d).excl = false) (hdm : d ≠ m)
    (hb1 : (es.length + es'.length) * bys ≤ 140737488355328) (hb2 : es.length + es'.length ≤ 1099511627776) :
    SemStep P (some d) (.app e sz bys x y) E (fun u => (d, .v (.val (u.1 0))) :: (m, .heap true (u.1 0) (u.2 0) e sz bys (es ++ es')) :: drop1 m E) := by
  intro ok N B w0 a w o hI hdst hdN hc K Q hK
  obtain ⟨yo, zo, t, hop, ht, hmx, hmz⟩ := chk_app hc
  obtain ⟨hu, i, zv, hi, hzz, h1, h2, h3, h4⟩ := ownT_ok ht
  have hv := mx_ok hI hmx
  rw [hx] at hv
  simp only [SlotOK, Rep] at hv
  have hz := mx_ok hI hmz
  rw [hy] at hz
  simp only [SlotOK, Rep] at hz
  obtain ⟨ad, cap, hzv, hcz, hr⟩ := hz
  have hs := hI.slot m
  rw [hg] at hs
  obtain ⟨hxr, hnd, hall⟩ := hs
  obtain ⟨ss, fs, hssl, hown, hre, hfs1, hfs2, hfs3⟩ : ∃ (ss : List (List DV)) (fs : List Nat), ss.length = es.length ∧ OwnRep B.n ok w e sz ss v ∧ (∀ ys : List Value, All2 (Rep ok w) ss.flatten (ys.take (es.length * sz)) → XRows ok w sz es ys fs) ∧ (∀ b ∈ fs, b ∈ bs) ∧ fs.Nodup ∧ ∀ b, ownBlk v = some b → b ∈ bs ∧ b ∉ fs := by
    rcases heap_full hI hg with ⟨rfl, rfl, rfl⟩ | ⟨g, cap', cur, fs, rfl, hh, hl, hmx', hcs, rfl, hxr'⟩
    · exact ⟨[], [], rfl, ⟨by simp, [], World.ownsRow_nil _ _ _ _, by simp [All2], fun b hb => by simp [ownBlk] at hb⟩, fun ys _ => by simp [XRows], by simp, by simp, fun b hb => by simp [ownBlk] at hb⟩
    · obtain ⟨ss, h5, h6, h7, h8⟩ := xrows_skel hxr'
      have hG := hall g (by simp)
      have hle := Nat.mul_le_mul_right sz hl
      have hgb : ∀ b, ownBlk (.slice (some ⟨g, 0, none⟩) es.length cap') = some b → g = b := fun b hb => by simpa [ownBlk] using hb
      refine ⟨ss, fs, h5, ⟨h6, cur.toList.take (es.length * sz), ⟨by rw [h5]; simp; omega, .inr ⟨g, cap', cur, by rw [h5], hG.2.1.elim id (fun h => by simp at h), hh, by omega, hmx', hcs, by rw [h5]⟩⟩, h7, fun b hb => ?_⟩, h8, fun b hb => by simp [hb], (List.nodup_cons.1 hnd).2, fun b hb => ?_⟩
      · rw [← hgb b hb]; exact hG.1
      · rw [← hgb b hb]; exact ⟨by simp, (List.nodup_cons.1 hnd).1⟩
  have key : ∀ (v' : Value) (w' : World), (Builtin.append_ #[t, t] o.type #[a.eval yo, a.eval zo]).run P w = .ok v' w' → (execOp a.eval o).run P w = .ok (.value v') w' := by
    intro v' w' h
    simp [execOp, hop, resolve, invoke, builtin, h]
  have hlen' : ∀ r ∈ es', r.length = sz := by
    rcases hr with rfl | ⟨b, off, _, _, hr⟩
    · simp
    · have : ∀ (es : List (List DV)) (o : Nat), RepRows ok w sz b es o → ∀ r ∈ es, r.length = sz := by
        intro es
        induction es with
        | nil => intro o _ r hr; simp at hr
        | cons r rs ih =>
          intro o h r' hr'
          simp only [RepRows] at h
          rcases List.mem_cons.1 hr' with rfl | hr'
          · exact h.1
          · exact ih _ h.2.2 r' hr'
      exact this es' off hr
  have fin : ∀ (v' : Value) (w' : World) (xs news : List Value), (execOp a.eval o).run P w = .ok (.value v') w' → w.grownBy w' (ownBlk v) → w'.ownsRow B.n e sz v' (ss.length + es'.length) (xs ++ news) → news.length = es'.length * sz →
      All2 (Rep ok w) ss.flatten xs → All2 (Rep ok w) es'.flatten news → (∀ b, ownBlk v' = some b → ¬ ok b ∧ (ownBlk v = some b ∨ w.heap.size ≤ b)) → (∃ q n c, v' = .slice q n c) → o.wp P a w K Q := by
    intro v' w' xs news hrun hgr hrow hnl hxs hn hbl hsl
    have h1' := hI.forget1 m
    have hnot : ∀ b, b ∈ bs → ∀ k, ¬ blkP (get (drop1 m E) k) (tm a k) b := fun b hb k hk => by
      rw [get_drop1] at hk
      split at hk
      · simp [blkP] at hk
      · rename_i hne; exact hne (.inl (hI.apart m k b (by rw [hg]; exact hb) hk))
    have hI2 : InvO ok N B w0 (drop1 m E) a w' := by
      cases hob : ownBlk v with
      | none =>
        have hw : Below w.heap.size w w' := Below.of_grown hgr hob
        exact h1'.grow hw ⟨fun _ h => h, fun _ h => .inl h, fun b hb => Nat.lt_of_lt_of_le (hI.okLt b hb) hw.size⟩
      | some b0 =>
        have hm0 := (hfs3 b0 hob).1
        have hb0 := hall b0 hm0
        exact h1'.changed (grown_changed hgr b0 (fun b hb => by rw [hob] at hb; simpa using hb.symm)) (hb0.2.1.imp_right (·.2)) hb0.1 (hnot b0 hm0)
    have hk : Keeps ok ok w w' := fun b hb => ⟨hb, fun off => World.cell?_of_block (w := w) (a := ⟨b, off, none⟩) (hgr.block b (hI.okLt b hb) (fun e' => (hall b (hfs3 b e'.symm).1).1 hb))⟩
    have hfl : flatRows es' := fun r hr' x hx => all2_flat hn x (List.mem_flatten.2 ⟨r, hr', hx⟩)
    have hxl : xs.length = es.length * sz := by
      have := hrow.1
      rw [List.length_append, hnl, Nat.add_mul, hssl] at this
      omega
    have hX : XRows ok w sz es xs fs := hre xs (by rw [List.take_of_length_le (by omega)]; exact hxs)
    have hN : XRows ok w sz es' news [] := xrows_of hfl hlen' (by omega) (by rw [List.take_of_length_le (by omega)]; exact hn)
    have hblk : ∀ b ∈ fs, w'.heap[b]? = w.heap[b]? := fun b hb => hgr.block b (hall b (hfs1 b hb)).2.2 (fun e' => (hfs3 b e'.symm).2 hb)
    have hXN := XRows.mono hk _ _ _ hblk (xrows_append hX hN hxl)
    have hsz : w.heap.size ≤ w'.heap.size := hgr.size
    obtain ⟨bs', hx', hnd', hall'⟩ : ∃ bs', XRep ok w' (.own e sz bys (es ++ es')) v' bs' ∧ bs'.Nodup ∧ ∀ b ∈ bs', ¬ ok b ∧ B.n ≤ b ∧ b < w'.heap.size ∧ (∀ k, ¬ blkP (get (drop1 m E) k) (tm a k) b) := by
      obtain ⟨hrl, hrow2⟩ := hrow
      rcases hrow2 with ⟨rfl, hn0⟩ | ⟨g', cap', cur', rfl, hB', hg', hc', hm', hs', ht'⟩
      · refine ⟨[], ?_, by simp, by simp⟩
        simp only [XRep]
        exact .inl ⟨trivial, List.eq_nil_of_length_eq_zero (by rw [List.length_append, ← hssl]; exact hn0), trivial⟩
      · have hb' := hbl g' rfl
        refine ⟨g' :: fs, ?_, ?_, fun b hb => ?_⟩
        · simp only [XRep]
          refine .inr ⟨g', cap', cur', fs, by rw [List.length_append, hssl], hg', by rw [List.length_append, ← hssl]; exact hc', hm', hs', rfl, xrows_take hXN ?_⟩
          rw [List.length_append, ← hssl, ht', List.take_of_length_le (by rw [hrl]; exact Nat.le_refl _)]
        · rw [List.nodup_cons]
          refine ⟨fun hf => ?_, hfs2⟩
          rcases hb'.2 with h5 | h5
          · exact (hfs3 g' h5).2 hf
          · have := (hall g' (hfs1 g' hf)).2.2; omega
        · rcases List.mem_cons.1 hb with rfl | hb
          · refine ⟨hb'.1, hB', (Array.getElem?_eq_some_iff.1 hg').1, fun k hk' => ?_⟩
            rcases hb'.2 with h5 | h5
            · exact hnot _ (hfs3 _ h5).1 k hk'
            · have := (blk_lt h1' hk').2.1; omega
          · have h5 := hall b (hfs1 b hb)
            exact ⟨h5.1, h5.2.1.elim id (fun h => by simp at h), Nat.lt_of_lt_of_le h5.2.2 hsz, hnot b (hfs1 b hb)⟩
    have h5 := hI2.addName (m := m) (s := .heap true v' bs' e sz bys (es ++ es')) (by rw [get_drop1, if_pos (.inl rfl)]) (fun a' => ⟨hx', hnd', fun b hb => ⟨(hall' b hb).1, .inl (hall' b hb).2.1, (hall' b hb).2.2.1⟩⟩) (fun _ => rfl) (fun b hb k => (hall' b hb).2.2.2 k)
    have hde : (get ((m, Slot.heap true v' bs' e sz bys (es ++ es')) :: drop1 m E) d).excl = false := by
      simp only [get, if_neg (Ne.symm hdm)]
      rw [get_drop1]
      split
      · rfl
      · exact hd
    have h6 := h5.put (d := d) (s := .v (.val v')) (v := v') (hdN d rfl) (okPut_of hde _) (by simp only [SlotOK, Rep]; exact ⟨trivial, oneV_sl hsl⟩) (fun b hb => absurd hb (blkP_none rfl))
    unfold Oper.wp
    rw [hrun]
    refine hK (fun _ => v', fun _ => bs') ok _ w' ?_ (fun _ h => .inl h)
    rw [hdst]; exact h6
  have hsl' : ∀ {w' : World} {v' : Value} {n : Nat} {xs : List Value}, w'.ownsRow B.n e sz v' n xs → ∃ q n c, v' = .slice q n c := by
    intro w' v' n xs h
    rcases h.2 with ⟨h, _⟩ | ⟨_, _, _, h, _⟩
    · exact ⟨_, _, _, h⟩
    · exact ⟨_, _, _, h⟩
  cases ad with
  | none =>
    have he : es' = [] := by
      rcases hr with h | ⟨b, off, h, _⟩
      · exact h
      · simp at h
    subst he
    have hown' := hown
    obtain ⟨h5, xs, h6, h7, h8⟩ := hown
    have hrun : (Builtin.append_ #[t, t] o.type #[a.eval yo, a.eval zo]).run P w = .ok v w := by
      rw [hzv, hv.1]
      rcases own_full hown' with ⟨h9, _⟩ | ⟨g, cap', cur, h9, _, _, hnc, _⟩
      · rw [h9]; simp [Builtin.append_, run_underlying hu, sizeOf, typeInfo, hi, Builtin.lenOf, Builtin.firstCells]
      · rw [h9]; simp [Builtin.append_, run_underlying hu, sizeOf, typeInfo, hi, Builtin.lenOf, Builtin.firstCells, hnc, storeCells]
    exact fin v w xs [] (key _ _ hrun) ⟨rfl, rfl, rfl, Nat.le_refl _, fun _ _ _ => rfl⟩ (by simpa using h6) (by simp) h7 (by simp [All2]) (fun b hb => ⟨h8 b hb, .inl hb⟩) (hsl' h6)
  | some adr =>
    have hvals : ∃ news : List Value, All2 (Rep ok w) es'.flatten news ∧ news.length = es'.length * sz ∧ ∀ j v, news[j]? = some v → w.cell? (adr.add j) = some v := by
      rcases hr with rfl | ⟨b, off, h5, _, h6⟩
      · exact ⟨[], by simp [All2], by simp, by simp⟩
      · simp at h5; subst h5
        obtain ⟨vs, h7, h8, h9⟩ := rows_vals es' off h6
        exact ⟨vs, h7, h8, fun j v hj => by rw [addr_add]; exact h9 j v hj⟩
    obtain ⟨news, hn1, hn2, hn3⟩ := hvals
    obtain ⟨v', w', xs, hrun, hg', hrow, hx', hbl⟩ := run_app (P := P) (ty := o.type) (c := cap) hu hi hzz h1 h2 h3 hown hI.base hI.okLt hn2 hn3 (all_one hn1) (by rw [hssl]; exact hb1) (by rw [hssl]; exact hb2)
    exact fin v' w' xs news (key _ _ (by rw [hzv, hv.1]; exact hrun)) hg' hrow hn2 hx' hn1 hbl (hsl' hrow)
theorem xrows_setrow {sz : Nat} : ∀ {rs : List (List DV)} {xs : List Value} {fs : List Nat}, XRows ok w sz rs xs fs → ∀ {i : Nat} {ds : List DV} {us : List Value}, i < rs.length → (∀ d ∈ rs.getD i [], d.flat = true) → All2 (Rep ok w) ds us → ds.length = sz →
    XRows ok w sz (rs.set i ds) (xs.take (i * sz) ++ us ++ xs.drop (i * sz + sz)) fs
  | [], _, _, _, i, _, _, hi, _, _, _ => by simp at hi
  | r :: rs, xs, fs, h, i, ds, us, hi, hf, hu, hd => by
    simp only [XRows] at h
    obtain ⟨f1, f2, hl, rfl, h3, h4⟩ := h
    have hul := hu.length
    have hfl : ∀ d ∈ ds, d.flat = true := all2_flat hu
    cases i with
    | zero =>
      have hf1 : f1 = [] := by
        have := xrows_flat (rs := [r]) (sz := sz) (xs := xs) (fs := f1) (fun q hq => by simp at hq; subst hq; simpa using hf) (by simp only [XRows]; exact ⟨f1, [], hl, by simp, h3, rfl⟩)
        exact this.1
      subst hf1
      simp only [List.set_cons_zero, XRows, Nat.zero_mul, List.take_zero, List.nil_append, Nat.zero_add]
      refine ⟨[], f2, hd, rfl, ?_, ?_⟩
      · have := xrows_of (ok := ok) (w := w) (rs := [ds]) (sz := sz) (xs := us ++ xs.drop sz) (fun q hq => by simp at hq; subst hq; exact hfl) (by simpa using hd) (by simp; omega) (by
          simp only [List.flatten_cons, List.flatten_nil, List.append_nil, List.length_cons, List.length_nil, Nat.zero_add, Nat.one_mul]
          rw [List.take_append_of_le_length (by omega), List.take_of_length_le (by omega)]; exact hu)
        simp only [XRows] at this
        obtain ⟨g1, g2, _, h5, h6, h7⟩ := this
        have : g1 = [] := by simp at h5; exact h5.1
        subst this; exact h6
      · rw [List.drop_append_of_le_length (by omega), List.drop_of_length_le (by omega), List.nil_append]; exact h4
    | succ i =>
      obtain ⟨ss, h5, h6, h7⟩ := xrow_skel h3
      have hxl : sz ≤ xs.length := by have := h6.length; simp at this; omega
      have hle : sz ≤ (i + 1) * sz := by rw [Nat.add_mul]; omega
      simp only [List.set_cons_succ, XRows]
      refine ⟨f1, f2, hl, rfl, h7 _ ?_, ?_⟩
      · rw [List.append_assoc, List.take_append_of_le_length (by simp; omega), List.take_take, Nat.min_eq_left (by omega)]; exact h6
      · have := xrows_setrow h4 (i := i) (ds := ds) (us := us) (by simpa using hi) (by simpa using hf) hu hd
        rw [List.append_assoc, List.drop_append_of_le_length (by simp; omega), List.drop_take, show (i + 1) * sz - sz = i * sz by rw [Nat.add_mul]; omega, ← List.append_assoc]
        rw [List.drop_drop, show sz + (i * sz + sz) = (i + 1) * sz + sz by rw [Nat.add_mul]; omega] at this
        exact this
theorem sem_stoHa {m mm i : Nat} {ad x : X} {fr : Bool} {v : Value} {bs : List Nat} {e sz bys : Nat} {es : List (List DV)} {ds : List DV} (ha : vw E ad = .gp m i 0) (hg : get E m = .heap fr v bs e sz bys es) (hx : vw E x = .agg ds) (hmm : mm = ds.length) (hl : (es.getD i []).length = ds.length) (h0 : ∀ d ∈ es.getD i [], d.flat = true) :
    SemStep P none (.sto mm ad x) E (fun _ => (m, .heap fr v bs e sz bys (es.set i ds)) :: E) := by
  subst hmm
  intro ok N B w0 a w o' hI hdst hdN hc K Q hK
  generalize hop : o'.op = op at hc
  cases op <;> try (simp [chkOp, chk] at hc; done)
  case call c => rcases not_call_chk hc with ⟨_, h⟩ | ⟨_, h⟩ | ⟨_, _, h⟩ | ⟨_, _, h⟩ | ⟨_, _, _, _, _, h⟩ | ⟨_, _, h⟩ | ⟨_, _, _, h⟩ <;> simp at h
  case store t y z =>
    simp only [chkOp, Bool.and_eq_true, beq_iff_eq] at hc
    have hpy := mx_ok hI hc.1.1
    have hpz := mx_ok hI hc.1.2
    rw [ha] at hpy
    rw [hx] at hpz
    obtain ⟨cs, hcs, hcall⟩ := hpz
    obtain ⟨b, len, cap0, fr', v0, bs', e', sz', bys', es', g1, g2, g3, g4⟩ := hpy
    rw [hg] at g1
    simp only [Slot.heap.injEq] at g1
    obtain ⟨rfl, rfl, rfl, rfl, rfl, rfl, rfl⟩ := g1
    rcases heap_full hI hg with ⟨h5, rfl, _⟩ | ⟨g, cap, cur, fs, hv, hh, hlc, hmx, hcz, hb, hxr⟩
    · simp at g4
    · have hv' := hv
      rw [g2] at hv'
      simp only [Value.slice.injEq, Option.some.injEq, Addr.mk.injEq, and_true] at hv'
      obtain ⟨rfl, _⟩ := hv'
      have hrl := (xrows_get hxr g4).1
      have hle : i * sz + sz ≤ es.length * sz := by have := Nat.mul_le_mul_right sz (show i + 1 ≤ es.length from g4); rw [Nat.add_mul, Nat.one_mul] at this; exact this
      have hle2 : es.length * sz ≤ cap * sz := Nat.mul_le_mul_right sz hlc
      have hcl := hcall.length
      simp only [Array.length_toList] at hcl
      have hdsz : ds.length = sz := by omega
      have hcells : (Value.agg cs).cells = cs := rfl
      have hrun : (execOp a.eval o').run P w = .ok .skip (w.setRow b (cur.toList.take (i * sz) ++ cs.toList ++ cur.toList.drop (i * sz + sz)).toArray) := by
        have hst := storeVar_run (P := P) (w := w) (t := t) (b := b) (o := i * sz) (v := a.eval z) (by rw [hcs, hcells, hc.2, hcl]) hh (by rw [hcs, hcells, hcz]; omega) (by rw [hcs, hcells]; exact all_one hcall)
        rw [hcs, hcells] at hst
        have e1 : i * sz + cs.size = i * sz + sz := by omega
        rw [e1] at hst
        simp [execOp, hop, g3, Instr.storeAt, Instr.sureAddr, hcs, hst]
      have hs := hI.slot m
      rw [hg] at hs
      obtain ⟨_, hnd, hall⟩ := hs
      have hgb : b ∈ bs := by rw [hb]; simp
      have hG := hall b hgb
      have hch := setRow_changed w b (cur.toList.take (i * sz) ++ cs.toList ++ cur.toList.drop (i * sz + sz)).toArray
      have hk := hch.keeps hI.okLt hG.1
      have hx2 := xrows_setrow hxr g4 h0 hcall hdsz
      refine Done.skip hrun (ok' := ok) (fun _ h => .inl h) ?_ K Q (hK (fun _ => .bool false, fun _ => []))
      rw [hdst]
      refine hI.upd hch (hG.2.1.imp_right (·.2)) hG.1 (by rw [hg]; exact hgb) ?_ (.inr (.inr ⟨_, _, _, _, _, _, _, _, hg, rfl, by simp⟩))
      refine ⟨?_, hnd, fun c hc' => ⟨(hall c hc').1, (hall c hc').2.1, Nat.lt_of_lt_of_le (hall c hc').2.2 hch.size⟩⟩
      simp only [XRep]
      refine .inr ⟨b, cap, _, fs, by simpa using hv, setRow_heap w b cur _ e _ hh, by simpa using hlc, hmx, by simp; omega, hb, ?_⟩
      have := XRows.mono hk _ _ fs (fun c hc' => setRow_other w b c _ (fun e' => ?_)) hx2
      · simpa using this
      · subst e'
        rw [hb] at hnd
        exact (List.nodup_cons.1 hnd).1 hc'
end
end Go.Rd

namespace Go.Rd
open Go.RowKit
section
variable {P : Program} {Q : Env → Prop} {l : List GOp} {keep : List Nat} {k : List It} {E : Env}
theorem run_name {d e sz bys : Nat} {es : List (List DV)} (m : Nat) (hg : get E d = .own e sz bys es) (hm : get E m = .undef) (h : ∀ v bs, RunQ P Q k ((d, .v (.val v)) :: (m, .heap true v bs e sz bys es) :: drop1 d E)) : RunQ P Q k E :=
  run_gh (gh_name hg hm) (fun u => h (u.1 0) (u.2 0))
theorem rowAt_set {es : List (List DV)} {i : Nat} {r : List DV} (hi : i < es.length) : (es.set i r).getD i [] = r := by
  rw [List.getD_eq_getElem?_getD, List.getElem?_set_self hi]; rfl
theorem mid_idxS {d sz m i : Nat} {x j : X} {ki : IntKind} {fr : Bool} {v : Value} {bs : List Nat} {e bys : Nat} {es : List (List DV)} {r : List DV} (hi : i < es.length) (hx : vw E x = .v (.val v)) (hg : get E m = .heap fr v bs e sz bys (es.set i r)) (hk : vw E j = .v (.int ki (i : Int)))
    (hp : okPut d (.gp m i 0) E = true) (hm : Mid 0 P Q l keep k ((d, .gp m i 0) :: E)) : Mid 0 P Q (⟨some d, none, .idx sz x j⟩ :: l) keep k E := by
  refine mid_sem (sem_idxH hx hg hk (by omega) (by simpa using hi) (by simpa using hp)) (fun _ => ?_)
  simpa using hm
theorem mid_ldS {d m i o : Nat} {x : X} {fr : Bool} {v : Value} {bs : List Nat} {e sz bys : Nat} {es : List (List DV)} {r : List DV} {dv : DV} (hi : i < es.length) (hx : vw E x = .gp m i o) (hg : get E m = .heap fr v bs e sz bys (es.set i r)) (hd : r[o]? = some dv) (hf : dv.flat = true)
    (hp : okPut d (.v dv) E = true) (hm : Mid 0 P Q l keep k ((d, .v dv) :: E)) : Mid 0 P Q (⟨some d, none, .ld x⟩ :: l) keep k E :=
  mid_sem (sem_ldH hx hg (by rw [rowAt_set hi]; exact hd) hf hp) (fun _ => hm)
theorem mid_stoS {m i o : Nat} {ad x : X} {fr : Bool} {v : Value} {bs : List Nat} {e sz bys : Nat} {es : List (List DV)} {r r' : List DV} {d0 d : DV} (hi : i < es.length) (ha : vw E ad = .gp m i o) (hg : get E m = .heap fr v bs e sz bys (es.set i r)) (hx : vw E x = .v d) (hd : r[o]? = some d0) (h0 : d0.flat = true) (h1 : d.flat = true)
    (hr : r.set o d = r') (hm : Mid 0 P Q l keep k ((m, .heap fr v bs e sz bys (es.set i r')) :: E)) : Mid 0 P Q (⟨none, none, .sto 1 ad x⟩ :: l) keep k E := by
  refine mid_sem (sem_stoH ha hg hx (by rw [rowAt_set hi]; exact hd) h0 h1) (fun _ => ?_)
  rw [rowAt_set hi, List.set_set, hr]; exact hm
theorem mid_stoaS {m mm i : Nat} {ad x : X} {fr : Bool} {v : Value} {bs : List Nat} {e sz bys : Nat} {es : List (List DV)} {r ds : List DV} (hi : i < es.length) (ha : vw E ad = .gp m i 0) (hg : get E m = .heap fr v bs e sz bys (es.set i r)) (hx : vw E x = .agg ds) (hmm : mm = ds.length) (hl : r.length = ds.length) (h0 : r.all DV.flat = true)
    (hm : Mid 0 P Q l keep k ((m, .heap fr v bs e sz bys (es.set i ds)) :: E)) : Mid 0 P Q (⟨none, none, .sto mm ad x⟩ :: l) keep k E := by
  refine mid_sem (sem_stoHa ha hg hx hmm (by rw [rowAt_set hi]; exact hl) (by rw [rowAt_set hi]; simpa using h0)) (fun _ => ?_)
  rw [List.set_set]; exact hm
theorem mid_openS {m i o e sz bys e2 sz2 bys2 : Nat} {fr : Bool} {v : Value} {bs : List Nat} {es es2 : List (List DV)} {r : List DV} (n : Nat) (hi : i < es.length) (hg : get E m = .heap fr v bs e sz bys (es.set i r)) (hd : r[o]? = some (.own e2 sz2 bys2 es2)) (hn : get E n = .undef)
    (hm : ∀ u bs1 bs2, Mid 0 P Q l keep k ((m, .heap fr v bs1 e sz bys (es.set i (r.set o (.val u)))) :: (n, .heap fr u bs2 e2 sz2 bys2 es2) :: E)) : Mid 0 P Q l keep k E := by
  refine mid_gh (gh_open hg (by rw [rowAt_set hi]; exact hd) hn) (fun u => ?_)
  rw [rowAt_set hi, List.set_set]; exact hm (u.1 0) (u.2 1) (u.2 0)
theorem mid_closeS {m i o e sz bys e2 sz2 bys2 : Nat} {fr fr2 : Bool} {v v2 : Value} {bs bs2 : List Nat} {es es2 : List (List DV)} {r r' : List DV} (n : Nat) (hi : i < es.length) (hg : get E m = .heap fr v bs e sz bys (es.set i r)) (hd : r[o]? = some (.val v2)) (hn : get E n = .heap fr2 v2 bs2 e2 sz2 bys2 es2) (hmn : m ≠ n) (hfr : fr = true → fr2 = true)
    (hr : r.set o (.own e2 sz2 bys2 es2) = r') (hm : ∀ bs', Mid 0 P Q l keep k ((m, .heap fr v bs' e sz bys (es.set i r')) :: drop1 n E)) : Mid 0 P Q l keep k E := by
  refine mid_gh (gh_close hg (by rw [rowAt_set hi]; exact hd) hn hmn hfr) (fun u => ?_)
  rw [rowAt_set hi, List.set_set, hr]; exact hm (u.2 0)
theorem mid_appH {d m e sz bys : Nat} {x y : X} {v : Value} {bs : List Nat} {es es' : List (List DV)} (hx : vw E x = .v (.val v)) (hg : get E m = .heap true v bs e sz bys es) (hy : vw E y = .v (.sl sz es')) (hd : (get E d).excl = false) (hdm : d ≠ m)
    (hb1 : (es.length + es'.length) * bys ≤ 140737488355328) (hb2 : es.length + es'.length ≤ 1099511627776) (hm : ∀ v' bs', Mid 0 P Q l keep k ((d, .v (.val v')) :: (m, .heap true v' bs' e sz bys (es ++ es')) :: drop1 m E)) : Mid 0 P Q (⟨some d, none, .app e sz bys x y⟩ :: l) keep k E :=
  mid_sem (sem_appH hx hg hy hd hdm hb1 hb2) (fun u => hm (u.1 0) (u.2 0))
theorem mid_callV1t {d : Nat} {t0 : HT} {s : Value → Slot} {f : FuncId} {xs : List X} {args0 args : List AV} {res : Value → List RV} (n0 : Nat)
    (hOK : CallsH P f [] [t0] (fun _ => args) (fun u => res (u 0))) (hav : argsV E xs = some args0) (hpure : argsPure E xs = true) (hvw : All2 (VwA E) args0 args)
    (hs : ∀ v0, resSlot (res v0) = some (s v0)) (hn : ∀ v0, noOwn (res v0) = true) (hfr : ∀ v0, (res v0).all RV.free = true)
    (hft : freeRows t0.es = true) (hnd : [n0].Nodup) (hu : get E n0 = .undef) (hd : (get E d).excl = false) (hdn : d ∉ [n0])
    (hm : ∀ v0 b0, Mid 0 P Q l keep k ((d, s v0) :: (n0, .heap true v0 b0 t0.e t0.sz t0.bys t0.es) :: E)) :
    Mid 0 P Q (⟨some d, none, .call f xs⟩ :: l) keep k E := by
  refine mid_sem (sem_callV (s := fun u => s (u 0)) [n0] hOK hnd ?_ rfl hav hpure hvw (fun u => hs (u 0)) (fun u => hn (u 0)) (fun u => hfr (u 0)) ?_ hd hdn) (fun u => hm (u.1 0) (u.2 0))
  · simpa [List.forall_mem_cons] using hu
  · simpa [List.forall_mem_cons] using hft
theorem mid_callV2t {d : Nat} {t0 t1 : HT} {s : Value → Value → Slot} {f : FuncId} {xs : List X} {args0 args : List AV} {res : Value → Value → List RV} (n0 n1 : Nat)
    (hOK : CallsH P f [] [t0, t1] (fun _ => args) (fun u => res (u 0) (u 1))) (hav : argsV E xs = some args0) (hpure : argsPure E xs = true) (hvw : All2 (VwA E) args0 args)
    (hs : ∀ v0 v1, resSlot (res v0 v1) = some (s v0 v1)) (hn : ∀ v0 v1, noOwn (res v0 v1) = true) (hfr : ∀ v0 v1, (res v0 v1).all RV.free = true)
    (hft : freeRows t0.es = true ∧ freeRows t1.es = true) (hnd : [n0, n1].Nodup) (hu : get E n0 = .undef ∧ get E n1 = .undef) (hd : (get E d).excl = false) (hdn : d ∉ [n0, n1])
    (hm : ∀ v0 v1 b0 b1, Mid 0 P Q l keep k ((d, s v0 v1) :: (n0, .heap true v0 b0 t0.e t0.sz t0.bys t0.es) :: (n1, .heap true v1 b1 t1.e t1.sz t1.bys t1.es) :: E)) :
    Mid 0 P Q (⟨some d, none, .call f xs⟩ :: l) keep k E := by
  refine mid_sem (sem_callV (s := fun u => s (u 0) (u 1)) [n0, n1] hOK hnd ?_ rfl hav hpure hvw (fun u => hs (u 0) (u 1)) (fun u => hn (u 0) (u 1)) (fun u => hfr (u 0) (u 1)) ?_ hd hdn) (fun u => hm (u.1 0) (u.1 1) (u.2 0) (u.2 1))
  · simpa [List.forall_mem_cons] using hu
  · simpa [List.forall_mem_cons] using hft
theorem mid_callV7t {d : Nat} {t0 t1 t2 t3 t4 t5 t6 : HT} {s : Value → Value → Value → Value → Value → Value → Value → Slot} {f : FuncId} {xs : List X} {args0 args : List AV} {res : Value → Value → Value → Value → Value → Value → Value → List RV} (n0 n1 n2 n3 n4 n5 n6 : Nat)
    (hOK : CallsH P f [] [t0, t1, t2, t3, t4, t5, t6] (fun _ => args) (fun u => res (u 0) (u 1) (u 2) (u 3) (u 4) (u 5) (u 6))) (hav : argsV E xs = some args0) (hpure : argsPure E xs = true) (hvw : All2 (VwA E) args0 args)
    (hs : ∀ v0 v1 v2 v3 v4 v5 v6, resSlot (res v0 v1 v2 v3 v4 v5 v6) = some (s v0 v1 v2 v3 v4 v5 v6)) (hn : ∀ v0 v1 v2 v3 v4 v5 v6, noOwn (res v0 v1 v2 v3 v4 v5 v6) = true) (hfr : ∀ v0 v1 v2 v3 v4 v5 v6, (res v0 v1 v2 v3 v4 v5 v6).all RV.free = true)
    (hft : freeRows t0.es = true ∧ freeRows t1.es = true ∧ freeRows t2.es = true ∧ freeRows t3.es = true ∧ freeRows t4.es = true ∧ freeRows t5.es = true ∧ freeRows t6.es = true) (hnd : [n0, n1, n2, n3, n4, n5, n6].Nodup) (hu : get E n0 = .undef ∧ get E n1 = .undef ∧ get E n2 = .undef ∧ get E n3 = .undef ∧ get E n4 = .undef ∧ get E n5 = .undef ∧ get E n6 = .undef) (hd : (get E d).excl = false) (hdn : d ∉ [n0, n1, n2, n3, n4, n5, n6])
    (hm : ∀ v0 v1 v2 v3 v4 v5 v6 b0 b1 b2 b3 b4 b5 b6, Mid 0 P Q l keep k ((d, s v0 v1 v2 v3 v4 v5 v6) :: (n0, .heap true v0 b0 t0.e t0.sz t0.bys t0.es) :: (n1, .heap true v1 b1 t1.e t1.sz t1.bys t1.es) :: (n2, .heap true v2 b2 t2.e t2.sz t2.bys t2.es) :: (n3, .heap true v3 b3 t3.e t3.sz t3.bys t3.es) :: (n4, .heap true v4 b4 t4.e t4.sz t4.bys t4.es) :: (n5, .heap true v5 b5 t5.e t5.sz t5.bys t5.es) :: (n6, .heap true v6 b6 t6.e t6.sz t6.bys t6.es) :: E)) :
    Mid 0 P Q (⟨some d, none, .call f xs⟩ :: l) keep k E := by
  refine mid_sem (sem_callV (s := fun u => s (u 0) (u 1) (u 2) (u 3) (u 4) (u 5) (u 6)) [n0, n1, n2, n3, n4, n5, n6] hOK hnd ?_ rfl hav hpure hvw (fun u => hs (u 0) (u 1) (u 2) (u 3) (u 4) (u 5) (u 6)) (fun u => hn (u 0) (u 1) (u 2) (u 3) (u 4) (u 5) (u 6)) (fun u => hfr (u 0) (u 1) (u 2) (u 3) (u 4) (u 5) (u 6)) ?_ hd hdn) (fun u => hm (u.1 0) (u.1 1) (u.1 2) (u.1 3) (u.1 4) (u.1 5) (u.1 6) (u.2 0) (u.2 1) (u.2 2) (u.2 3) (u.2 4) (u.2 5) (u.2 6))
  · simpa [List.forall_mem_cons] using hu
  · simpa [List.forall_mem_cons] using hft
theorem mid_callH1t {d : Nat} {t0 : HT} {q0 : HT} {m0 : Nat} {fr : Bool} {v0 : Value} {b0 : List Nat} {s : Slot} {f : FuncId} {xs : List X} {args : Value → List AV} {rs : List RV}
    (hOK : CallsH P f [t0] [q0] (fun u => args (u 0)) (fun _ => rs))
    (hg : get E m0 = .heap fr v0 b0 t0.e t0.sz t0.bys t0.es) (hnd : [m0].Nodup)
    (hav : argsV E xs = some (args v0)) (hpure : argsPure E xs = true) (hs : resSlot rs = some s) (hn : noOwn rs = true) (hd : (get E d).excl = false) (hdm : d ∉ [m0])
    (hm : ∀ c0, Mid 0 P Q l keep k ((d, s) :: (m0, .heap fr v0 c0 q0.e q0.sz q0.bys q0.es) :: drop1 m0 (E))) :
    Mid 0 P Q (⟨some d, none, .call f xs⟩ :: l) keep k E := by
  refine mid_sem (sem_callH (u0 := (fun i => v0, fun i => b0)) [m0] [] hOK ⟨hg, trivial⟩ (by simp) (by simp) rfl hav hpure (fun _ => hs) (fun _ => hn) hd (by simpa using hdm)) (fun u => ?_)
  simpa [envH, patch, drops] using hm (u.2 0)
theorem mid_callH7t {d : Nat} {t0 t1 t2 t3 t4 t5 t6 : HT} {q0 q1 q2 q3 q4 q5 q6 : HT} {m0 m1 m2 m3 m4 m5 m6 : Nat} {fr : Bool} {v0 v1 v2 v3 v4 v5 v6 : Value} {b0 b1 b2 b3 b4 b5 b6 : List Nat} {s : Slot} {f : FuncId} {xs : List X} {args : Value → Value → Value → Value → Value → Value → Value → List AV} {rs : List RV}
    (hOK : CallsH P f [t0, t1, t2, t3, t4, t5, t6] [q0, q1, q2, q3, q4, q5, q6] (fun u => args (u 0) (u 1) (u 2) (u 3) (u 4) (u 5) (u 6)) (fun _ => rs))
    (hg : get E m0 = .heap fr v0 b0 t0.e t0.sz t0.bys t0.es ∧ get E m1 = .heap fr v1 b1 t1.e t1.sz t1.bys t1.es ∧ get E m2 = .heap fr v2 b2 t2.e t2.sz t2.bys t2.es ∧ get E m3 = .heap fr v3 b3 t3.e t3.sz t3.bys t3.es ∧ get E m4 = .heap fr v4 b4 t4.e t4.sz t4.bys t4.es ∧ get E m5 = .heap fr v5 b5 t5.e t5.sz t5.bys t5.es ∧ get E m6 = .heap fr v6 b6 t6.e t6.sz t6.bys t6.es) (hnd : [m0, m1, m2, m3, m4, m5, m6].Nodup)
    (hav : argsV E xs = some (args v0 v1 v2 v3 v4 v5 v6)) (hpure : argsPure E xs = true) (hs : resSlot rs = some s) (hn : noOwn rs = true) (hd : (get E d).excl = false) (hdm : d ∉ [m0, m1, m2, m3, m4, m5, m6])
    (hm : ∀ c0 c1 c2 c3 c4 c5 c6, Mid 0 P Q l keep k ((d, s) :: (m0, .heap fr v0 c0 q0.e q0.sz q0.bys q0.es) :: (m1, .heap fr v1 c1 q1.e q1.sz q1.bys q1.es) :: (m2, .heap fr v2 c2 q2.e q2.sz q2.bys q2.es) :: (m3, .heap fr v3 c3 q3.e q3.sz q3.bys q3.es) :: (m4, .heap fr v4 c4 q4.e q4.sz q4.bys q4.es) :: (m5, .heap fr v5 c5 q5.e q5.sz q5.bys q5.es) :: (m6, .heap fr v6 c6 q6.e q6.sz q6.bys q6.es) :: drop1 m0 (drop1 m1 (drop1 m2 (drop1 m3 (drop1 m4 (drop1 m5 (drop1 m6 (E))))))))) :
    Mid 0 P Q (⟨some d, none, .call f xs⟩ :: l) keep k E := by
  refine mid_sem (sem_callH (u0 := (fun i => if i = 0 then v0 else if i = 1 then v1 else if i = 2 then v2 else if i = 3 then v3 else if i = 4 then v4 else if i = 5 then v5 else v6, fun i => if i = 0 then b0 else if i = 1 then b1 else if i = 2 then b2 else if i = 3 then b3 else if i = 4 then b4 else if i = 5 then b5 else b6)) [m0, m1, m2, m3, m4, m5, m6] [] hOK ⟨hg.1, hg.2.1, hg.2.2.1, hg.2.2.2.1, hg.2.2.2.2.1, hg.2.2.2.2.2.1, hg.2.2.2.2.2.2, trivial⟩ (by simpa using hnd) (by simp) rfl hav hpure (fun _ => hs) (fun _ => hn) hd (by simpa using hdm)) (fun u => ?_)
  simpa [envH, patch, drops] using hm (u.2 0) (u.2 1) (u.2 2) (u.2 3) (u.2 4) (u.2 5) (u.2 6)
end
end Go.Rd

namespace Go.Rd
open Go.RowKit
def DV.is : DV → Value → Prop
  | .bool b, v => v = .bool b
  | .int k n, v => v = .int k n
  | .str l, v => v = .string ⟨⟨l⟩⟩
  | .val u, v => v = u ∧ OneV v
  | _, _ => False
theorem DV.is_rep {ok : Nat → Prop} {w : World} {d : DV} {v : Value} (h : d.is v) : Rep ok w d v := by
  cases d <;> simp only [DV.is] at h <;> simp only [Rep] <;> exact h
theorem DV.is_of {ok : Nat → Prop} {w : World} {d : DV} {v v' : Value} (h : d.is v) (hr : Rep ok w d v') : v' = v := by
  cases d <;> simp only [DV.is] at h <;> simp only [Rep] at hr
  · rw [h, hr]
  · rw [h, hr]
  · rw [h, hr]
  · rw [h.1, hr.1]
theorem oneV_ptr (a : Option Addr) : OneV (.pointer a) := ⟨rfl, rfl⟩
theorem oneV_slice (a : Option Addr) (n c : Nat) : OneV (.slice a n c) := ⟨rfl, rfl⟩
theorem oneV_func (f : Fn) (a b : Array Value) : OneV (.func f a b) := ⟨rfl, rfl⟩
theorem oneV_map (r : Option Nat) : OneV (.map r) := ⟨rfl, rfl⟩
def HoldsIn (ok : Nat → Prop) (w : World) (hs : List (Nat × Obj)) : Prop := (∀ p ∈ hs, w.heap[p.1]? = some p.2 ∧ ¬ ok p.1) ∧ (hs.map (·.1)).Nodup
def CallsP (P : Program) (f : FuncId) (args : List AV) (hin : List (Nat × Obj)) (hout : List Obj) (res : List RV) : Prop :=
  hout.length = hin.length ∧ ∀ (ok : Nat → Prop) (w : World) (vs : Array Value), (∀ b, ok b → b < w.heap.size) → All2 (ArgOK ok w) args vs.toList → HoldsIn ok w hin →
    Calls P f vs w fun x w' => ∃ r ok', x = .returned r ∧ BelowL ⟨w.heap.size, fun b => b ∈ hin.map (·.1)⟩ w w' ∧ OkExt ok ok' w w' ∧ ResOK w.heap.size ok' w' res r ∧
      ∀ (i : Nat) p o, hin[i]? = some p → hout[i]? = some o → w'.heap[p.1]? = some o ∧ ¬ ok' p.1
def envP : List Nat → List Nat → List Obj → Env
  | n :: ns, b :: bs, o :: os => (n, .hold b o) :: envP ns bs os
  | _, _, _ => []
def GetP (E : Env) : List Nat → List (Nat × Obj) → Prop
  | n :: ns, p :: ps => get E n = .hold p.1 p.2 ∧ GetP E ns ps
  | [], [] => True
  | _, _ => False
theorem getP_at {E : Env} : ∀ {ns : List Nat} {ps : List (Nat × Obj)}, GetP E ns ps → ns.length = ps.length ∧ ∀ (i : Nat) p, ps[i]? = some p → ∃ n, ns[i]? = some n ∧ get E n = .hold p.1 p.2
  | [], [], _ => by simp
  | [], _ :: _, h => h.elim
  | _ :: _, [], h => h.elim
  | n :: ns, q :: ps, h => by
    obtain ⟨h1, h2⟩ := getP_at h.2
    refine ⟨by simp [h1], fun i p hi => ?_⟩
    cases i with
    | zero => simp at hi; subst hi; exact ⟨n, by simp, h.1⟩
    | succ i =>
      obtain ⟨m, h3, h4⟩ := h2 i p (by simpa using hi)
      exact ⟨m, by simpa using h3, h4⟩
theorem getP_names {E : Env} : ∀ {ns : List Nat} {ps : List (Nat × Obj)}, GetP E ns ps → ∀ n ∈ ns, ∃ b o, get E n = .hold b o
  | [], [], _, n, hn => by simp at hn
  | [], _ :: _, h, _, _ => h.elim
  | _ :: _, [], h, _, _ => h.elim
  | m :: ns, q :: ps, h, n, hn => by
    rcases List.mem_cons.1 hn with rfl | hn
    · exact ⟨_, _, h.1⟩
    · exact getP_names h.2 n hn
theorem envP_not {n : Nat} : ∀ {ns bs : List Nat} {os : List Obj} {E : Env}, n ∉ ns → get (envP ns bs os ++ E) n = get E n
  | [], _, _, _, _ => rfl
  | _ :: _, [], _, _, _ => rfl
  | _ :: _, _ :: _, [], _, _ => rfl
  | m :: ns, b :: bs, o :: os, E, hn => by
    simp only [envP, List.cons_append, get]
    rw [if_neg (fun e => hn (by simp [e]))]
    exact envP_not (fun h => hn (by simp [h]))
theorem envP_get {n : Nat} : ∀ {ns bs : List Nat} {os : List Obj} {E : Env}, get (envP ns bs os ++ E) n = get E n ∨ ∃ (i : Nat) (b : Nat) (o : Obj), ns[i]? = some n ∧ bs[i]? = some b ∧ os[i]? = some o ∧ get (envP ns bs os ++ E) n = .hold b o
  | [], _, _, _ => .inl rfl
  | _ :: _, [], _, _ => .inl rfl
  | _ :: _, _ :: _, [], _ => .inl rfl
  | m :: ns, b :: bs, o :: os, E => by
    simp only [envP, List.cons_append, get]
    split
    · rename_i e; subst e; exact .inr ⟨0, b, o, by simp, by simp, by simp, rfl⟩
    · rcases envP_get (n := n) (ns := ns) (bs := bs) (os := os) (E := E) with h | ⟨i, b', o', h1, h2, h3, h4⟩
      · exact .inl h
      · exact .inr ⟨i + 1, b', o', by simpa using h1, by simpa using h2, by simpa using h3, h4⟩
section
variable {P : Program} {ok : Nat → Prop} {N : Nat} {B : Bd} {w0 : World} {E : Env} {a : Act} {w : World}
theorem no_points (hI : InvO ok N B w0 E a w) {n m : Nat} (hm : (∃ b o, get E m = .hold b o) ∨ get E m = .undef) : (get E n).points m = false := by
  cases hp : (get E n).points m with
  | false => rfl
  | true =>
    exfalso
    have hs := hI.slot n
    revert hs hp
    generalize get E n = s
    intro hp hs
    cases s <;> simp only [Slot.points, beq_iff_eq, Bool.false_eq_true] at hp
    case al k =>
      subst hp
      obtain ⟨_, e, sz, bys, es, h⟩ := hs
      rw [h] at hm; simp at hm
    case ref k o =>
      subst hp
      obtain ⟨b, ds, _, _, h⟩ := hs
      rw [h] at hm; simp at hm
    case oel k i o =>
      subst hp
      obtain ⟨b, len, cap, e, sz, bys, es, _, _, h, _⟩ := hs
      rw [h] at hm; simp at hm
    case gp k i o =>
      subst hp
      obtain ⟨b, len, cap, fr, v0, bs, e, sz, bys, es, h, _⟩ := hs
      rw [h] at hm; simp at hm
theorem drops_holds (hI : InvO ok N B w0 E a w) : ∀ {ms : List Nat}, (∀ m ∈ ms, ∃ b o, get E m = .hold b o) → ∀ n, n ∉ ms → get (drops ms E) n = get E n
  | [], _, _, _ => rfl
  | m :: ms, hm, n, hn => by
    have ih := drops_holds hI (ms := ms) (fun k hk => hm k (by simp [hk])) n (fun h => hn (by simp [h]))
    show get (drop1 m (drops ms E)) n = get E n
    rw [get_drop1, if_neg, ih]
    rintro (h | h)
    · exact hn (by simp [h])
    · have h1 := no_points (hI.drops ms) (n := n) (m := m) (by
        by_cases hmm : m ∈ ms
        · exact .inr (get_drops_in hmm)
        · rw [drops_holds hI (ms := ms) (fun k hk => hm k (by simp [hk])) m hmm]; exact .inl (hm m (by simp)))
      rw [h1] at h; simp at h
theorem InvO.addHolds (h : InvO ok N B w0 E a w) : ∀ (ns bs : List Nat) (os : List Obj), ns.Nodup → bs.Nodup → (∀ n ∈ ns, get E n = .undef) → (∀ (i : Nat) b o, bs[i]? = some b → os[i]? = some o → w.heap[b]? = some o ∧ ¬ ok b ∧ B.has b) →
    (∀ b ∈ bs, ∀ n, ¬ blkP (get E n) (tm a n) b) → InvO ok N B w0 (envP ns bs os ++ E) a w
  | [], _, _, _, _, _, _, _ => h
  | _ :: _, [], _, _, _, _, _, _ => h
  | _ :: _, _ :: _, [], _, _, _, _, _ => h
  | n :: ns, b :: bs, o :: os, hn, hb, hu, hx, hd => by
    have ih := InvO.addHolds h ns bs os (List.nodup_cons.1 hn).2 (List.nodup_cons.1 hb).2 (fun m hm => hu m (by simp [hm])) (fun i b' o' h1 h2 => hx (i + 1) b' o' (by simpa using h1) (by simpa using h2)) (fun b' hb' => hd b' (by simp [hb']))
    refine ih.addName (m := n) (s := .hold b o) (by rw [envP_not (List.nodup_cons.1 hn).1]; exact hu n (by simp)) (fun a' => hx 0 b o (by simp) (by simp)) (fun _ => rfl) (fun c hc m hm => ?_)
    have e : b = c := hc
    subst e
    rcases envP_get (n := m) (ns := ns) (bs := bs) (os := os) (E := E) with h1 | ⟨i, b', o', h1, h2, h3, h4⟩
    · rw [h1] at hm; exact hd b (by simp) m hm
    · rw [h4] at hm
      have e : b' = b := hm
      subst e
      exact (List.nodup_cons.1 hb).1 (List.mem_of_getElem? h2)
theorem InvO.updHolds {ok' : Nat → Prop} {w' : World} {ms : List Nat} {hin : List (Nat × Obj)} {hout : List Obj} (hI : InvO ok N B w0 E a w) (hg : GetP E ms hin) (hms : ms.Nodup) (hln : hout.length = hin.length) (hb : BelowL ⟨w.heap.size, fun b => b ∈ hin.map (·.1)⟩ w w') (hx : OkExt ok ok' w w')
    (ho : ∀ (i : Nat) p o, hin[i]? = some p → hout[i]? = some o → w'.heap[p.1]? = some o ∧ ¬ ok' p.1) : InvO ok' N B w0 (envP ms (hin.map (·.1)) hout ++ E) a w' ∧ HoldsIn ok w hin := by
  obtain ⟨hl, hat⟩ := getP_at hg
  have hblk : ∀ (i : Nat) p, hin[i]? = some p → ∃ n, ms[i]? = some n ∧ get E n = .hold p.1 p.2 ∧ w.heap[p.1]? = some p.2 ∧ ¬ ok p.1 ∧ B.has p.1 := fun i p hi => by
    obtain ⟨n, h1, h2⟩ := hat i p hi
    have hs := hI.slot n
    rw [h2] at hs
    exact ⟨n, h1, h2, hs.1, hs.2.1, hs.2.2⟩
  have hmem : ∀ b, b ∈ hin.map (·.1) → ∃ (i : Nat) (p : Nat × Obj), hin[i]? = some p ∧ p.1 = b := fun b hb => by
    obtain ⟨p, h1, h2⟩ := List.mem_map.1 hb
    obtain ⟨i, h3⟩ := List.getElem?_of_mem h1
    exact ⟨i, p, h3, h2⟩
  have hnd : (hin.map (·.1)).Nodup := by
    rw [List.nodup_iff_pairwise_ne, List.pairwise_iff_getElem]
    intro i j hi hj hij he
    simp only [List.length_map] at hi hj
    simp only [List.getElem_map] at he
    obtain ⟨n, h1, h2, _⟩ := hblk i hin[i] (List.getElem?_eq_getElem hi)
    obtain ⟨m, h3, h4, _⟩ := hblk j hin[j] (List.getElem?_eq_getElem hj)
    have := hI.apart n m hin[i].1 (by rw [h2]; rfl) (by rw [h4]; exact he.symm)
    subst this
    have := nodup_idx hms h1 h3
    omega
  have hname : ∀ m ∈ ms, ∃ b o, get E m = .hold b o := getP_names hg
  have hgone : ∀ b, b ∈ hin.map (·.1) → ∀ n, ¬ blkP (get (Rd.drops ms E) n) (tm a n) b := fun b hb n hn => by
    obtain ⟨i, p, h1, h2⟩ := hmem b hb
    obtain ⟨m, h3, h4, _⟩ := hblk i p h1
    by_cases hnm : n ∈ ms
    · rw [get_drops_in hnm] at hn; simp [blkP] at hn
    · rw [drops_holds hI hname n hnm] at hn
      have := hI.apart n m b hn (by rw [h4]; exact h2)
      subst this
      exact hnm (List.mem_of_getElem? h3)
  have h1 := (hI.drops ms).frame (D := fun b => b ∈ hin.map (·.1)) hb hx (fun b hb => by
    obtain ⟨i, p, h1, rfl⟩ := hmem b hb
    obtain ⟨_, _, _, _, h2, h3⟩ := hblk i p h1
    exact ⟨h2, h3⟩) (fun n b hn hb => hgone b hb n hn)
  have h2 := h1.addHolds ms (hin.map (·.1)) hout hms hnd (fun n hn => get_drops_in hn) (fun i b o h3 h4 => by
    rw [List.getElem?_map] at h3
    obtain ⟨p, h5, rfl⟩ := Option.map_eq_some_iff.1 h3
    obtain ⟨_, _, _, _, _, h6⟩ := hblk i p h5
    have := ho i p o h5 h4
    exact ⟨this.1, this.2, h6⟩) (fun b hb => hgone b hb)
  refine ⟨h2.congr (fun n => ?_), fun p hp => ?_, hnd⟩
  · by_cases hnm : n ∈ ms
    · have hlen : ∀ {ns bs : List Nat} {os : List Obj} {E1 E2 : Env}, n ∈ ns → ns.length = bs.length → ns.length = os.length → get (envP ns bs os ++ E1) n = get (envP ns bs os ++ E2) n := by
        intro ns
        induction ns with
        | nil => intro bs os E1 E2 h; simp at h
        | cons m ns ih =>
          intro bs os E1 E2 hn h1 h2
          cases bs with
          | nil => simp at h1
          | cons b bs =>
            cases os with
            | nil => simp at h2
            | cons o os =>
              simp only [envP, List.cons_append, get]
              split
              · rfl
              · rename_i hne
                exact ih ((List.mem_cons.1 hn).resolve_left (fun e => hne e.symm)) (by simpa using h1) (by simpa using h2)
      exact hlen hnm (by simp [hl]) (by omega)
    · rw [envP_not hnm, envP_not hnm, drops_holds hI hname n hnm]
  · obtain ⟨i, h3⟩ := List.getElem?_of_mem hp
    obtain ⟨_, _, _, h4, h5, _⟩ := hblk i p h3
    exact ⟨h4, h5⟩
theorem vals_args : ∀ {cs : List Value}, (∀ v ∈ cs, OneV v) → All2 (ArgOK ok w) (cs.map fun v => .v (.val v)) cs
  | [], _ => trivial
  | v :: cs, h => ⟨by show Rep ok w (.val v) v; simp only [Rep]; exact ⟨trivial, h v (by simp)⟩, vals_args (fun u hu => h u (by simp [hu]))⟩
theorem callP_core {c : Call} {o : Oper} {y : Operand} {cs : Array Value} {f : FuncId} {xs : List X} {args : List AV} {res : List RV} {hin : List (Nat × Obj)} {hout : List Obj} {ms : List Nat} (hI : InvO ok N B w0 E a w) (ho : o.op = .call c) (hc : c.callee = .value y) (hy : a.eval y = .func (.func f) #[] cs) (hcs : ∀ v ∈ cs.toList, OneV v) (hf : callable P f = true)
    (hm : mxs c.args.toList xs = true) (hg : GetP E ms hin) (hms : ms.Nodup) (hOK : CallsP P f (args ++ cs.toList.map fun v => .v (.val v)) hin hout res) (hav : argsV E xs = some args) (hpure : argsPure E xs = true) (K : Act → World → Prop) (Q : Exit → Act → World → Prop)
    (hK : ∀ r w' ok', OkExt ok ok' w w' → InvO ok' N B w0 (envP ms (hin.map (·.1)) hout ++ E) a w' → ResOK w.heap.size ok' w' res r → K (a.put o.dst r) w') : o.wp P a w K Q := by
  unfold callable at hf
  split at hf
  case h_2 => exact (Bool.false_ne_true hf).elim
  rename_i fn hfn
  simp only [Bool.and_eq_true, bne_iff_ne, Option.isSome_iff_exists] at hf
  obtain ⟨hname, body, hbody⟩ := hf
  have hrun : (execOp a.eval o).run P w = .ok (.enter f (c.args.map a.eval ++ cs)) w := by
    simp [execOp, ho, resolve, hc, hy, Deferred.ofValue, invoke, callFunc, hfn, hname, hbody]
  unfold Oper.wp
  rw [hrun, Oper.upon_enter]
  have hargs := argsV_pure hI hm hav hpure
  have hin' := (hI.updHolds (hout := hin.map (·.2)) hg hms (by simp) (BelowL.refl _ w) (OkExt.refl hI.okLt) (fun i p o h1 h2 => by
    obtain ⟨hl, hat⟩ := getP_at hg
    obtain ⟨n, h3, h4⟩ := hat i p h1
    have hs := hI.slot n
    rw [h4] at hs
    rw [List.getElem?_map, h1] at h2
    simp only [Option.map_some, Option.some.injEq] at h2; subst h2
    exact ⟨hs.1, hs.2.1⟩)).2
  refine (hOK.2 ok w (c.args.map a.eval ++ cs) hI.okLt (by simpa using All2.append _ _ _ _ hargs (vals_args hcs)) hin').mono ?_
  rintro x w' ⟨r, ok', rfl, hb, hx, hr, hh⟩
  exact hK r w' ok' hx (hI.updHolds hg hms hOK.1 hb hx hh).1 hr
theorem sem_callP {d : Nat} {s : Slot} {f : FuncId} {xs : List X} {args : List AV} {rs : List RV} {hin : List (Nat × Obj)} {hout : List Obj} (ms : List Nat) (hOK : CallsP P f args hin hout rs) (hg : GetP E ms hin) (hms : ms.Nodup) (hav : argsV E xs = some args) (hpure : argsPure E xs = true)
    (hs : resSlot rs = some s) (hn : noOwn rs = true) (hd : (get E d).excl = false) (hdm : d ∉ ms) : SemStep P (some d) (.call f xs) E (fun _ => (d, s) :: (envP ms (hin.map (·.1)) hout ++ E)) := by
  intro ok N B w0 a w o hI hdst hdN hc K Q hK
  obtain ⟨c, hop, hcal, hcb, hm⟩ := chk_call hc
  refine callP_core (cs := #[]) hI hop hcal (by simp [Act.eval]) (by simp) hcb hm hg hms (by simpa using hOK) hav hpure K Q (fun r w' ok' hext hI' hr => hK (fun _ => .bool false, fun _ => []) ok' _ w' ?_ (fun b hb => (hext.new b hb).imp_right (fun h1 => Nat.le_trans hI.base h1)))
  rw [hdst]
  exact hI'.put (hdN d rfl) (okPut_of (by rw [envP_not hdm]; exact hd) _) (resSlot_ok hs hn hr a _) (fun b hb => absurd hb (blkP_none (resSlot_excl hs)))
theorem sem_callvP {d : Nat} {s : Slot} {f : FuncId} {cs : Array Value} {x : X} {xs : List X} {args : List AV} {rs : List RV} {hin : List (Nat × Obj)} {hout : List Obj} (ms : List Nat) (hf : callable P f = true) (hx : vw E x = .v (.val (.func (.func f) #[] cs))) (hcs : ∀ v ∈ cs.toList, OneV v) (hOK : CallsP P f (args ++ cs.toList.map fun v => .v (.val v)) hin hout rs)
    (hg : GetP E ms hin) (hms : ms.Nodup) (hav : argsV E xs = some args) (hpure : argsPure E xs = true)
    (hs : resSlot rs = some s) (hn : noOwn rs = true) (hd : (get E d).excl = false) (hdm : d ∉ ms) : SemStep P (some d) (.callv x xs) E (fun _ => (d, s) :: (envP ms (hin.map (·.1)) hout ++ E)) := by
  intro ok N B w0 a w o hI hdst hdN hc K Q hK
  obtain ⟨c, y, hop, hcal, hmy, hm⟩ := chk_callv hc
  have hcl := mx_ok hI hmy
  rw [hx] at hcl
  simp only [SlotOK, Rep] at hcl
  refine callP_core hI hop hcal hcl.1 hcs hf hm hg hms hOK hav hpure K Q (fun r w' ok' hext hI' hr => hK (fun _ => .bool false, fun _ => []) ok' _ w' ?_ (fun b hb => (hext.new b hb).imp_right (fun h1 => Nat.le_trans hI.base h1)))
  rw [hdst]
  exact hI'.put (hdN d rfl) (okPut_of (by rw [envP_not hdm]; exact hd) _) (resSlot_ok hs hn hr a _) (fun b hb => absurd hb (blkP_none (resSlot_excl hs)))
theorem callsP_of_run {f : FuncId} {fn : Func} {c : CC} {rx : List RX} {args : List AV} {res : List RV} {hin : List (Nat × Obj)} {hout : List Obj} (ns : List Nat) (hf : P.funcs[f]? = some fn) (hc : chkF P fn c rx = true)
    (hs : sizeXs P fn.results.toList res = true) (hn : args.length ≤ fn.ntmps ∧ ∀ n ∈ ns, args.length ≤ n) (hns : ns.Nodup) (hln : hout.length = hin.length) (hnl : ns.length = hin.length)
    (hrun : RunQ P (fun E => resP E rx = some res ∧ GetP E ns ((hin.map (·.1)).zip hout)) [.code c] (envP ns (hin.map (·.1)) (hin.map (·.2)) ++ argEnv args 0)) : CallsP P f args hin hout res := by
  refine ⟨hln, ?_⟩
  unfold chkF at hc
  split at hc
  case h_2 => exact (Bool.false_ne_true hc).elim
  rename_i C hb
  simp only [Bool.and_eq_true] at hc
  intro ok w vs hlt ha hall cs
  have h0 := entry_ok (N := fn.ntmps) hlt ha hn.1
  have hcase : ∀ n, (get (argEnv args 0) n = .undef) ∨ ∃ av, get (argEnv args 0) n = argSlot av := fun n => by
    rw [argEnv_get]
    cases args[n - 0]? with
    | none => left; simp
    | some av => right; exact ⟨av, by simp⟩
  have h0' : InvO ok fn.ntmps ⟨w.heap.size, fun b => b ∈ hin.map (·.1)⟩ w (argEnv args 0) { tmps := vs ++ Array.replicate (fn.ntmps - vs.size) undef, defers := [] } w :=
    ⟨h0.size, h0.defers, BelowL.refl _ _, h0.base, h0.okLt, fun n => by
      have hsl := h0.slot n
      rcases hcase n with h | ⟨av, h⟩
      · rw [h]; trivial
      · rw [h] at hsl ⊢
        cases av <;> exact hsl, h0.apart⟩
  have hI := h0'.addHolds ns (hin.map (·.1)) (hin.map (·.2)) hns hall.2 (fun n hn' => by
      rw [argEnv_get, List.getElem?_eq_none (by have := hn.2 n hn'; omega)]; simp) (fun i b o h1 h2 => by
      rw [List.getElem?_map] at h1 h2
      obtain ⟨p, h3, rfl⟩ := Option.map_eq_some_iff.1 h1
      rw [h3] at h2
      simp only [Option.map_some, Option.some.injEq] at h2; subst h2
      have := hall.1 p (List.mem_of_getElem? h3)
      exact ⟨this.1, this.2, .inr (List.mem_map.2 ⟨p, List.mem_of_getElem? h3, rfl⟩)⟩) (fun b _ n hn' => by
      rcases hcase n with h | ⟨av, h⟩
      · rw [h] at hn'; simp [blkP] at hn'
      · rw [h] at hn'; cases av <;> simp [argSlot, blkP] at hn')
  let b : Frame := { (default : Frame) with fn := f, kind := .normal }
  have henter : Frame.enter P f vs .normal = b.at { tmps := vs ++ Array.replicate (fn.ntmps - vs.size) undef, defers := [] } [.code C] := by
    simp [Frame.enter, Frame.at, hf, hb, b]
  obtain ⟨E', ok', a', w', todo, h1, h2, ⟨h3, hg⟩, h4⟩ := run_ok (b := b) (cs := cs) hrun hI (K := [.code C]) ⟨hc.1, trivial⟩
  rw [← henter] at h4
  obtain ⟨rs, hm, hr⟩ := resP_ok h1 hc.2 h3 hs
  have hres := results_run (P := P) (a := a') (w := w') (fn := fn) hm
  obtain ⟨hgl, hgat⟩ := getP_at hg
  have hsz : w.heap.size ≤ w'.heap.size := h1.below.size
  refine ⟨.returned _, w', _, ⟨_, fun b => ok b ∨ ok' b, rfl, h1.below, ⟨fun b hb => .inl hb, fun b hb => ?_, fun b hb => ?_⟩, ?_, fun i p o h5 h6 => ?_⟩, h4, rfl, rfl, h1.defers, rfl, fn, hf, hres⟩
  · rcases hb with hb | hb
    · exact .inl hb
    · exact h2 b hb
  · rcases hb with hb | hb
    · exact Nat.lt_of_lt_of_le (hlt b hb) hsz
    · exact h1.okLt b hb
  · have hm' : ∀ (rv : RV) (v : Value), RVOK w.heap.size ok' w' rv v → RVOK w.heap.size (fun b => ok b ∨ ok' b) w' rv v := fun rv v hh =>
      rvok_more (fun b hb => .inr hb) (fun b hB hb => hb.elim (fun hb => absurd (hlt b hb) (Nat.not_lt.2 hB)) id) hh
    match hrv : res, rs, hr with
    | [], [], _ => exact ⟨#[], rfl, trivial⟩
    | [rv], [u], hh => exact hm' rv u hh.1
    | r1 :: r2 :: rs', u1 :: u2 :: us, hh => exact ⟨(u1 :: u2 :: us).toArray, rfl, by simpa using hh.mono hm'⟩
  · obtain ⟨n, h7, h8⟩ := hgat i (p.1, o) (by rw [List.getElem?_zip_eq_some]; exact ⟨by rw [List.getElem?_map, h5]; rfl, h6⟩)
    have hsl := h1.slot n
    rw [h8] at hsl
    refine ⟨hsl.1, fun hh => hh.elim (hall.1 p (List.mem_of_getElem? h5)).2 hsl.2.1⟩
end
end Go.Rd

namespace Go.Rd
open Go.RowKit
def entL (ks : List Int) : List MapEntry := ks.zipIdx.map fun p => ⟨.int .i64 p.1, .int .i64 1, p.2⟩
def entA (ks : List Int) : Array MapEntry := (entL ks).toArray
def addKey (ks : List Int) (k : Int) : List Int := if ks.contains k then ks else ks ++ [k]
theorem entL_key {ks : List Int} : ∀ x ∈ entL ks, ∃ k, k ∈ ks ∧ x.key = .int .i64 k ∧ x.val = .int .i64 1 := by
  intro x hx
  obtain ⟨p, hp, rfl⟩ := List.mem_map.1 hx
  exact ⟨p.1, List.fst_mem_of_mem_zipIdx hp, rfl, rfl⟩
theorem entL_of {ks : List Int} {k : Int} (h : k ∈ ks) : ∃ x ∈ entL ks, x.key = .int .i64 k := by
  obtain ⟨i, hi⟩ := List.getElem?_of_mem h
  refine ⟨⟨.int .i64 k, .int .i64 1, i⟩, List.mem_map.2 ⟨(k, i), ?_, rfl⟩, rfl⟩
  rw [List.mem_zipIdx_iff_getElem?]; exact hi
theorem ent_find (ks : List Int) (k : Int) : (k ∉ ks ∧ Instr.findNow (.int .i64) (.int .i64 k) (entA ks).toList 0 = some none) ∨ (k ∈ ks ∧ ∃ (j : Nat) (e : MapEntry), Instr.findNow (.int .i64) (.int .i64 k) (entA ks).toList 0 = some (some (j, .int .i64 1)) ∧ (entA ks)[j]? = some e ∧ e.key = .int .i64 k ∧ e.val = .int .i64 1) := by
  have hl : (entA ks).toList = entL ks := rfl
  rw [hl]
  rcases MapKept.findNow_spec (d := .int .i64) (k := .int .i64 k) (by simp [MapKept.IsKey]) (entL ks) 0 (fun x hx => by
    obtain ⟨k', _, h, _⟩ := entL_key x hx
    rw [h]; simp [MapKept.IsKey]) with ⟨h1, h2⟩ | ⟨j, e, h1, h2, h3⟩
  · left
    refine ⟨fun hk => ?_, h1⟩
    obtain ⟨x, hx, hxk⟩ := entL_of hk
    exact h2 x hx hxk
  · right
    obtain ⟨k', hk', h4, h5⟩ := entL_key e (List.mem_of_getElem? h2)
    rw [h3] at h4
    simp only [Value.int.injEq, true_and] at h4
    subst h4
    refine ⟨hk', j, e, ?_, by simpa [entA] using h2, h3, h5⟩
    rw [h1, h5]; simp
section
variable {P : Program} {ok : Nat → Prop} {N : Nat} {B : Bd} {w0 : World} {E : Env} {a : Act} {w : World}
theorem intMap_ok {t : TypeId} (h : intMap P t = true) : ∃ k e, P.underlying t = some (.map k e) ∧ P.underlying k = some (.int .i64) ∧ P.underlying e = some (.int .i64) ∧ (zeroValue e).run P w = .ok (.int .i64 0) w := by
  unfold intMap at h
  split at h
  case h_2 => simp at h
  rename_i k e hu
  split at h
  case h_2 => simp at h
  rename_i i hk he hi
  split at h
  case h_2 => simp at h
  rename_i hz
  exact ⟨k, e, hu, hk, he, by simp [zeroValue, typeInfo, hi, hz]⟩
theorem InvO.newHold {w' : World} {m b : Nat} {o : Obj} (hI : InvO ok N B w0 E a w) (hb : Below w.heap.size w w') (ho : w'.heap[b]? = some o) (hn : w.heap.size ≤ b) (hm : get E m = .undef) : InvO ok N B w0 ((m, .hold b o) :: E) a w' := by
  have h1 := hI.grow hb ⟨fun _ h => h, fun _ h => .inl h, fun b hb' => Nat.lt_of_lt_of_le (hI.okLt b hb') hb.size⟩
  refine h1.addName hm (fun a' => ⟨ho, fun hok => ?_, .inl (Nat.le_trans hI.base hn)⟩) (fun _ => rfl) (fun c hc n hn' => ?_)
  · have := hI.okLt b hok; omega
  · have e : b = c := hc
    subst e
    have := (blk_lt hI hn').2.1; omega
theorem InvO.setHold {w' : World} {m b : Nat} {o o' : Obj} (hI : InvO ok N B w0 E a w) (hg : get E m = .hold b o) (hc : Changed b w w') (ho : w'.heap[b]? = some o') : InvO ok N B w0 ((m, .hold b o') :: E) a w' := by
  have hs := hI.slot m
  rw [hg] at hs
  have := (hI.updHolds (ms := [m]) (hin := [(b, o)]) (hout := [o']) ⟨hg, trivial⟩ (by simp) rfl (w' := w') (ok' := ok) ⟨hc.os, hc.tape, hc.output, hc.size, fun k hk hkn => hc.block k hk (by simpa using hkn)⟩ ⟨fun _ h => h, fun _ h => .inl h, fun c hc' => Nat.lt_of_lt_of_le (hI.okLt c hc') hc.size⟩ (fun i p q h1 h2 => by
    cases i with
    | zero => simp at h1 h2; subst h1 h2; exact ⟨ho, hs.2.1⟩
    | succ i => simp at h1)).1
  simpa [envP] using this
theorem sem_fldP {d off b o : Nat} {x : X} (hx : vw E x = .v (.val (.pointer (some ⟨b, o, none⟩)))) (hp : (get E d).excl = false) : SemStep P (some d) (.fld x off) E (fun _ => (d, .v (.val (.pointer (some ⟨b, o + off, none⟩)))) :: E) := by
  refine sem_gives (okPut_of hp _) rfl (fun ok N B w0 a w op hI hc => ?_)
  cases op <;> try (simp [chkOp, chk] at hc; done)
  case call c => rcases not_call_chk hc with ⟨_, h⟩ | ⟨_, h⟩ | ⟨_, _, h⟩ | ⟨_, _, h⟩ | ⟨_, _, _, _, _, h⟩ | ⟨_, _, h⟩ | ⟨_, _, _, h⟩ <;> simp at h
  case fieldAddr t y f =>
    simp only [chkOp, chk, Bool.and_eq_true] at hc
    obtain ⟨hm, hc⟩ := hc
    split at hc
    case h_2 => exact (Bool.false_ne_true hc).elim
    rename_i fs hu
    split at hc
    case h_2 => exact (Bool.false_ne_true hc).elim
    rename_i fd hfd
    simp only [Bool.and_eq_true, beq_iff_eq] at hc
    obtain ⟨rfl, hz⟩ := hc
    have hs := mx_ok hI hm
    rw [hx] at hs
    simp only [SlotOK, Rep] at hs
    intro d' ty pos af gd
    refine ⟨.pointer (some ⟨b, o + fd.offset, none⟩), ?_, by simp only [SlotOK, Rep]; exact ⟨trivial, oneV_ptr _⟩⟩
    cases hi : P.info? fd.type with
    | none => simp [hi] at hz
    | some info =>
      have hz' : info.size ≠ 0 := by simpa [hi] using hz
      simp [execOp, hs.1, Instr.fieldAt, run_underlying hu, hfd, Instr.sureAddr, fieldPlace, sizeOf, typeInfo, hi, hz', addr_add]
theorem sem_ldP {d m b o : Nat} {x : X} {cs : Array Value} {t : TypeId} {fz : Nat × Nat} {u : Value} {dv : DV} (hx : vw E x = .v (.val (.pointer (some ⟨b, o, none⟩)))) (hg : get E m = .hold b (.cells cs t fz)) (hv : cs[o]? = some u) (hd : dv.is u)
    (hp : (get E d).excl = false) : SemStep P (some d) (.ld x) E (fun _ => (d, .v dv) :: E) := by
  refine sem_gives (okPut_of hp _) rfl (fun ok N B w0 a w op hI hc => ?_)
  cases op <;> try (simp [chkOp, chk] at hc; done)
  case call c => rcases not_call_chk hc with ⟨_, h⟩ | ⟨_, h⟩ | ⟨_, _, h⟩ | ⟨_, _, h⟩ | ⟨_, _, _, _, _, h⟩ | ⟨_, _, h⟩ | ⟨_, _, _, h⟩ <;> simp at h
  case load t' y =>
    simp only [chkOp, chk, Bool.and_eq_true] at hc
    obtain ⟨hm, hsc⟩ := hc
    have hs := mx_ok hI hm
    rw [hx] at hs
    simp only [SlotOK, Rep] at hs
    have hh := hI.slot m
    rw [hg] at hh
    have hcell : w.cell? ⟨b, o, none⟩ = some u := by simp [World.cell?, hh.1, hv]
    intro d' ty pos af gd
    exact ⟨u, by simp [execOp, hs.1, Instr.loadAt, Instr.sureAddr, run_lds hsc hcell], DV.is_rep hd⟩
theorem sem_idxP {d sz b o n cap : Nat} {x j : X} {ki : IntKind} {k : Nat} (hx : vw E x = .v (.val (.slice (some ⟨b, o, none⟩) n cap))) (hk : vw E j = .v (.int ki (k : Int))) (h1 : k < n)
    (hp : (get E d).excl = false) : SemStep P (some d) (.idx sz x j) E (fun _ => (d, .v (.val (.pointer (some ⟨b, o + k * sz, none⟩)))) :: E) := by
  refine sem_gives (okPut_of hp _) rfl (fun ok N B w0 a w op hI hc => ?_)
  cases op <;> try (simp [chkOp, chk] at hc; done)
  case call c => rcases not_call_chk hc with ⟨_, h⟩ | ⟨_, h⟩ | ⟨_, _, h⟩ | ⟨_, _, h⟩ | ⟨_, _, _, _, _, h⟩ | ⟨_, _, h⟩ | ⟨_, _, _, h⟩ <;> simp at h
  case indexAddr t y i =>
    simp only [chkOp, chk, Bool.and_eq_true] at hc
    obtain ⟨⟨hm, hmi⟩, hc⟩ := hc
    split at hc
    case h_2 => exact (Bool.false_ne_true hc).elim
    rename_i e' hel
    have hu := elemT_some hel
    have hsz : szT P e' = some sz := by simpa using hc
    obtain ⟨ki', hi, _⟩ := vInt_ok (n := (k : Int)) hI hmi (by simp only [vInt, hk])
    have hs := mx_ok hI hm
    rw [hx] at hs
    simp only [SlotOK, Rep] at hs
    unfold szT at hsz
    cases hie : P.info? e' with
    | none => simp [hie] at hsz
    | some ie =>
      have hse : ie.size = sz := by simpa [hie] using hsz
      intro d' ty pos af gd
      refine ⟨.pointer (some ⟨b, o + k * sz, none⟩), ?_, by simp only [SlotOK, Rep]; exact ⟨trivial, oneV_ptr _⟩⟩
      simp [execOp, hs.1, hi, Instr.indexAt, asIntOf, run_underlying hu, sizeOf, typeInfo, hie, hse, addr_add, h1]
theorem sem_stoP {m b o : Nat} {ad x : X} {cs cs' : Array Value} {t : TypeId} {fz : Nat × Nat} {dv : DV} {u : Value} (ha : vw E ad = .v (.val (.pointer (some ⟨b, o, none⟩)))) (hg : get E m = .hold b (.cells cs t fz)) (hx : vw E x = .v dv) (hd : dv.is u) (ho : o < cs.size) (hf : ¬ (fz.1 ≤ o ∧ o < fz.2)) (hcs : cs.setIfInBounds o u = cs') :
    SemStep P none (.sto 1 ad x) E (fun _ => (m, .hold b (.cells cs' t fz)) :: E) := by
  subst hcs
  intro ok N B w0 a w o' hI hdst hdN hc K Q hK
  generalize hop : o'.op = op at hc
  cases op <;> try (simp [chkOp, chk] at hc; done)
  case call c => rcases not_call_chk hc with ⟨_, h⟩ | ⟨_, h⟩ | ⟨_, _, h⟩ | ⟨_, _, h⟩ | ⟨_, _, _, _, _, h⟩ | ⟨_, _, h⟩ | ⟨_, _, _, h⟩ <;> simp at h
  case store t' y z =>
    simp only [chkOp, Bool.and_eq_true, beq_iff_eq] at hc
    have hpy := mx_ok hI hc.1.1
    have hpz := mx_ok hI hc.1.2
    rw [ha] at hpy
    rw [hx] at hpz
    simp only [SlotOK, Rep] at hpy
    have hzc : (a.eval z).cells = #[a.eval z] := rep_cells hpz
    have hz1 := rep_one hpz
    have hz := DV.is_of hd hpz
    have hs := hI.slot m
    rw [hg] at hs
    have hcell : w.cell? ⟨b, o, none⟩ = some cs[o] := by simp [World.cell?, hs.1, ho]
    have hfro : w.frozen? ⟨b, o, none⟩ = false := by
      obtain ⟨lo, hi'⟩ := fz
      simp only [World.frozen?, hs.1]
      simpa [Bool.and_eq_false_iff, Nat.not_lt, Nat.not_le, not_and] using hf
    have hadd : (⟨b, o, none⟩ : Addr).add 0 = ⟨b, o, none⟩ := by rw [addr_add]; rfl
    have hst : (store (⟨b, o, none⟩ : Addr) (a.eval z)).run P w = .ok () (w.setRow b (cs.setIfInBounds o (a.eval z))) := by
      rw [run_store P w _ _ _ hz1, hcell]
      simp [hfro, setCell_eq_setRow w b o cs t fz _ hs.1]
    have hrun : (execOp a.eval o').run P w = .ok .skip (w.setRow b (cs.setIfInBounds o (a.eval z))) := by
      have hsz := hc.2
      unfold szT at hsz
      cases hi : P.info? t' with
      | none => simp [hi] at hsz
      | some i =>
        have e : i.size = 1 := by simpa [hi] using hsz
        simp [execOp, hop, hpy.1, Instr.storeAt, Instr.sureAddr, storeVar, sizeOf, typeInfo, hi, e, hzc, storeCells, hadd, hst]
    refine Done.skip hrun (ok' := ok) (fun _ h => .inl h) ?_ K Q (hK (fun _ => .bool false, fun _ => []))
    rw [hdst, ← hz]
    exact hI.setHold hg (setRow_changed w b _) (setRow_heap w b cs _ t _ hs.1)
theorem vals_eq : ∀ {cs us : List Value}, All2 (ArgOK ok w) (cs.map fun v => .v (.val v)) us → us = cs ∧ ∀ v ∈ cs, OneV v
  | [], [], _ => ⟨rfl, by simp⟩
  | [], _ :: _, h => h.elim
  | _ :: _, [], h => h.elim
  | v :: cs, u :: us, h => by
    obtain ⟨h1, h2⟩ := vals_eq h.2
    have h3 : Rep ok w (.val v) u := h.1
    simp only [Rep] at h3
    refine ⟨by rw [h1, h3.1], fun x hx => ?_⟩
    rcases List.mem_cons.1 hx with rfl | hx
    · rw [← h3.1]; exact h3.2
    · exact h2 x hx
theorem sem_mkf {d : Nat} {f : FuncId} {xs : List X} {cs : List Value} (hav : argsV E xs = some (cs.map fun v => .v (.val v))) (hpure : argsPure E xs = true) (hp : (get E d).excl = false) :
    SemStep P (some d) (.mkf f xs) E (fun _ => (d, .v (.val (.func (.func f) #[] cs.toArray))) :: E) := by
  refine sem_gives (okPut_of hp _) rfl (fun ok N B w0 a w op hI hc => ?_)
  cases op <;> try (simp [chkOp, chk] at hc; done)
  case call c => rcases not_call_chk hc with ⟨_, h⟩ | ⟨_, h⟩ | ⟨_, _, h⟩ | ⟨_, _, h⟩ | ⟨_, _, _, _, _, h⟩ | ⟨_, _, h⟩ | ⟨_, _, _, h⟩ <;> simp at h
  case makeFunc fn first caps =>
    simp only [chkOp, Bool.and_eq_true, beq_iff_eq] at hc
    obtain ⟨⟨hf, h0⟩, hm⟩ := hc
    have hfirst : first = #[] := Array.eq_empty_of_size_eq_zero h0
    have hfn : fn = .func f := by
      cases fn <;> simp at hf
      rw [hf]
    subst hfirst hfn
    have h1 := (vals_eq (argsV_pure hI hm hav hpure)).1
    intro d' ty pos af gd
    refine ⟨.func (.func f) #[] cs.toArray, ?_, by simp only [SlotOK, Rep]; exact ⟨trivial, oneV_func _ _ _⟩⟩
    have h2 : caps.map a.eval = cs.toArray := by
      apply Array.toList_inj.1
      simpa using h1
    simp [execOp, Instr.makeFunc, h2]
theorem sem_mkm {d m : Nat} {t : TypeId} (hm : get E m = .undef) (hp : (get E d).excl = false) (hdm : d ≠ m) :
    SemStep P (some d) (.mkm t) E (fun u => (d, .v (.val (.map (some ((u.2 0).headD 0))))) :: (m, .hold ((u.2 0).headD 0) (.map (entA []) 0)) :: E) := by
  intro ok N B w0 a w o hI hdst hdN hc K Q hK
  generalize hop : o.op = op at hc
  cases op <;> try (simp [chkOp, chk] at hc; done)
  case call c => rcases not_call_chk hc with ⟨_, h⟩ | ⟨_, h⟩ | ⟨_, _, h⟩ | ⟨_, _, h⟩ | ⟨_, _, _, _, _, h⟩ | ⟨_, _, h⟩ | ⟨_, _, _, h⟩ <;> simp at h
  case makeMap t' r =>
    simp only [chkOp, Bool.and_eq_true, Option.isNone_iff_eq_none] at hc
    obtain ⟨⟨rfl, _⟩, _⟩ := hc
    have hrun : (execOp a.eval o).run P w = .ok (.value (.map (some w.heap.size))) (w.alloc (.map (entA []) 0)) := by
      simp [execOp, hop, Instr.makeMap, entA, entL]
    unfold Oper.wp
    rw [hrun]
    refine hK (fun _ => .bool false, fun _ => [w.heap.size]) ok _ _ ?_ (fun _ h => .inl h)
    have h1 := hI.newHold (m := m) (World.alloc_changed w (.map (entA []) 0)) (MapKept.heap_alloc w _).1 (Nat.le_refl _) hm
    have hde : (get ((m, Slot.hold w.heap.size (.map (entA []) 0)) :: E) d).excl = false := by
      simp only [get, if_neg (Ne.symm hdm)]; exact hp
    rw [hdst]
    exact h1.put (hdN d rfl) (okPut_of hde _) (by simp only [SlotOK, Rep]; exact ⟨rfl, oneV_map _⟩) (fun b hb => absurd hb (blkP_none rfl))
theorem setIn_changed {w : World} {b : Nat} {o o' : Obj} (hb : w.heap[b]? = some o) : Changed b w { w with heap := w.heap.setIfInBounds b o' } :=
  ⟨rfl, rfl, rfl, by simp, fun k _ hk => (MapKept.heap_set hb).2 k hk⟩
theorem sem_mpu {m b : Nat} {t : TypeId} {x y z : X} {ks : List Int} {k : Int} (hx : vw E x = .v (.val (.map (some b)))) (hg : get E m = .hold b (.map (entA ks) ks.length)) (hy : vw E y = .v (.int .i64 k)) (hz : vw E z = .v (.int .i64 1)) :
    SemStep P none (.mpu t x y z) E (fun _ => (m, .hold b (.map (entA (addKey ks k)) (addKey ks k).length)) :: E) := by
  intro ok N B w0 a w o hI hdst hdN hc K Q hK
  generalize hop : o.op = op at hc
  cases op <;> try (simp [chkOp, chk] at hc; done)
  case call c => rcases not_call_chk hc with ⟨_, h⟩ | ⟨_, h⟩ | ⟨_, _, h⟩ | ⟨_, _, h⟩ | ⟨_, _, _, _, _, h⟩ | ⟨_, _, h⟩ | ⟨_, _, _, h⟩ <;> simp at h
  case mapUpdate t' mo ko vo =>
    simp only [chkOp, Bool.and_eq_true] at hc
    obtain ⟨⟨⟨⟨_, ht⟩, hm⟩, hmk⟩, hmv⟩ := hc
    obtain ⟨kt, et, hu, hk, he, _⟩ := intMap_ok (w := w) ht
    have h1 := mx_ok hI hm
    have h2 := mx_ok hI hmk
    have h3 := mx_ok hI hmv
    rw [hx] at h1; rw [hy] at h2; rw [hz] at h3
    simp only [SlotOK, Rep] at h1 h2 h3
    have hs := hI.slot m
    rw [hg] at hs
    have hgo := MapKept.run_getObj_map (P := P) hs.1
    have hck : (Instr.checkKey false 10000 kt (.int .i64 k)).run P w = .ok () w := MapKept.run_checkKey (n := 9999) hk (by simp [MapKept.IsKey]) false
    have fin : (execOp a.eval o).run P w = .ok .skip { w with heap := w.heap.setIfInBounds b (.map (entA (addKey ks k)) (addKey ks k).length) } := by
      rcases ent_find ks k with ⟨hn, hf⟩ | ⟨hin, j, e, hf, hj, hek, hev⟩
      · have hfk := MapKept.run_findKey (P := P) (w := w) (kt := kt) hk hf
        have ha : addKey ks k = ks ++ [k] := by unfold addKey; rw [if_neg (by simpa using hn)]
        have hp : (entA ks).push { key := .int .i64 k, val := .int .i64 1, born := ks.length } = entA (ks ++ [k]) := by
          simp [entA, entL, List.zipIdx_append]
        have hso := MapKept.run_setObj_map (P := P) (.map ((entA ks).push { key := .int .i64 k, val := .int .i64 1, born := ks.length }) (ks.length + 1)) hs.1
        rw [ha, ← hp]
        simp [execOp, hop, h1.1, h2, h3, Instr.mapUpdate, run_underlying hu, hgo, hck, hfk, hso, Result.andThen]
      · have hfk := MapKept.run_findKey (P := P) (w := w) (kt := kt) hk hf
        have ha : addKey ks k = ks := by unfold addKey; rw [if_pos (by simpa using hin)]
        have hst : (Instr.keyThatStays (.int .i64 k) (.int .i64 k)).run P w = .ok (.int .i64 k) w := by simp [Instr.keyThatStays, Instr.sameBits]
        have hmod : ((entA ks).modify j fun e => { e with key := .int .i64 k, val := .int .i64 1 }) = entA ks := by
          apply Array.ext_getElem?
          intro i
          rw [Array.getElem?_modify]
          split
          · rename_i hij
            subst hij
            rw [hj]
            simp only [Option.map_some, Option.some.injEq]
            rw [← hek, ← hev]
          · rfl
        have hso := MapKept.run_setObj_map (P := P) (.map (entA ks) ks.length) hs.1
        rw [ha]
        simp [execOp, hop, h1.1, h2, h3, Instr.mapUpdate, run_underlying hu, hgo, hck, hfk, hj, hek, hst, hmod, hso, Result.andThen]
    refine Done.skip fin (ok' := ok) (fun _ h => .inl h) ?_ K Q (hK (fun _ => .bool false, fun _ => []))
    rw [hdst]
    exact hI.setHold hg (setIn_changed hs.1) (MapKept.heap_set hs.1).1
theorem sem_mpl {d m b : Nat} {t : TypeId} {x y : X} {ks : List Int} {k : Int} {clock : Nat} (hx : vw E x = .v (.val (.map (some b)))) (hg : get E m = .hold b (.map (entA ks) clock)) (hy : vw E y = .v (.int .i64 k)) (hp : (get E d).excl = false) :
    SemStep P (some d) (.mpl t x y) E (fun _ => (d, .v (.int .i64 (if ks.contains k then 1 else 0))) :: E) := by
  refine sem_gives (okPut_of hp _) rfl (fun ok N B w0 a w op hI hc => ?_)
  cases op <;> try (simp [chkOp, chk] at hc; done)
  case call c => rcases not_call_chk hc with ⟨_, h⟩ | ⟨_, h⟩ | ⟨_, _, h⟩ | ⟨_, _, h⟩ | ⟨_, _, _, _, _, h⟩ | ⟨_, _, h⟩ | ⟨_, _, _, h⟩ <;> simp at h
  case lookup t' mo ko cok =>
    simp only [chkOp, Bool.and_eq_true, Bool.not_eq_true'] at hc
    obtain ⟨⟨⟨⟨rfl, _⟩, ht⟩, hm⟩, hmk⟩ := hc
    obtain ⟨kt, et, hu, hk, he, hz⟩ := intMap_ok (w := w) ht
    have h1 := mx_ok hI hm
    have h2 := mx_ok hI hmk
    rw [hx] at h1; rw [hy] at h2
    simp only [SlotOK, Rep] at h1 h2
    have hs := hI.slot m
    rw [hg] at hs
    have hgo := MapKept.run_getObj_map (P := P) hs.1
    have hck : ∀ e, (Instr.checkKey e 10000 kt (.int .i64 k)).run P w = .ok () w := fun e => MapKept.run_checkKey (n := 9999) hk (by simp [MapKept.IsKey]) e
    intro d' ty pos af gd
    rcases ent_find ks k with ⟨hn, hf⟩ | ⟨hin, j, e, hf, hj, hek, hev⟩
    · have hfk := MapKept.run_findKey (P := P) (w := w) (kt := kt) hk hf
      refine ⟨.int .i64 0, by simp [execOp, h1.1, h2, Instr.lookup, run_underlying hu, hgo, hck, hfk, hz, Result.andThen], ?_⟩
      rw [if_neg (by simpa using hn)]; simp [SlotOK, Rep]
    · have hfk := MapKept.run_findKey (P := P) (w := w) (kt := kt) hk hf
      refine ⟨.int .i64 1, by simp [execOp, h1.1, h2, Instr.lookup, run_underlying hu, hgo, hck, hfk, Result.andThen], ?_⟩
      rw [if_pos (by simpa using hin)]; simp [SlotOK, Rep]
end
end Go.Rd

namespace Go.Rd
open Go.RowKit
def byteVals (l : List UInt8) : List Value := l.map fun c => Value.int .u8 (c.toNat : Int)
def byteCells (l : List UInt8) (x : Nat) : Array Value := (byteVals l ++ List.replicate x (Value.int .u8 0)).toArray
theorem byteCells_size (l : List UInt8) (x : Nat) : (byteCells l x).size = l.length + x := by simp [byteCells, byteVals]
theorem byteCells_get {l : List UInt8} {x i : Nat} (h : i < l.length) : (byteCells l x)[i]? = some (.int .u8 (l[i].toNat : Int)) := by
  simp [byteCells, byteVals, List.getElem?_append_left, h]
theorem byteCells_set {l : List UInt8} {x i : Nat} {c : UInt8} (h : i < l.length) : (byteCells l x).setIfInBounds i (.int .u8 (c.toNat : Int)) = byteCells (l.set i c) x := by
  apply Array.toList_inj.1
  simp [byteCells, byteVals, List.set_append_left, h]
section
variable {P : Program} {ok : Nat → Prop} {N : Nat} {B : Bd} {w0 : World} {E : Env} {a : Act} {w : World}
theorem sem_s2b {d m : Nat} {e : TypeId} {x : X} {l : List UInt8} (hx : vw E x = .v (.str l)) (hm : get E m = .undef) (hp : (get E d).excl = false) (hdm : d ≠ m) :
    SemStep P (some d) (.s2b e x) E (fun u => (d, .v (.val (.slice (some ⟨(u.2 0).headD 0, 0, none⟩) l.length (l.length + (u.2 1).headD 0)))) :: (m, .hold ((u.2 0).headD 0) (.cells (byteCells l ((u.2 1).headD 0)) e (l.length + (u.2 1).headD 0, l.length + (u.2 1).headD 0 + 1))) :: E) := by
  intro ok N B w0 a w o hI hdst hdN hc K Q hK
  generalize hop : o.op = op at hc
  cases op <;> try (simp [chkOp, chk] at hc; done)
  case call c => rcases not_call_chk hc with ⟨_, h⟩ | ⟨_, h⟩ | ⟨_, _, h⟩ | ⟨_, _, h⟩ | ⟨_, _, _, _, _, h⟩ | ⟨_, _, h⟩ | ⟨_, _, _, h⟩ <;> simp at h
  case convert src dst y =>
    simp only [chkOp, Bool.and_eq_true] at hc
    obtain ⟨hmy, hck⟩ := hc
    unfold chkS2b at hck
    split at hck
    case h_2 => exact (Bool.false_ne_true hck).elim
    rename_i e' h1 h2
    simp only [Bool.and_eq_true, beq_iff_eq] at hck
    obtain ⟨rfl, hck⟩ := hck
    split at hck
    case h_2 => exact (Bool.false_ne_true hck).elim
    rename_i h3
    have hy := mx_ok hI hmy
    rw [hx] at hy
    simp only [SlotOK, Rep] at hy
    have hcap : l.length ≤ grownCap w l.length 0 e' := grownCap_ge w _ _ _
    have hrow : bytesRow ⟨⟨l⟩⟩ (grownCap w l.length 0 e') = byteCells l (grownCap w l.length 0 e' - l.length) := by
      apply Array.toList_inj.1
      simp [bytesRow, byteCells, byteVals, ByteArray.size]
    have hsz : (ByteArray.mk ⟨l⟩).size = l.length := rfl
    have hrun := run_bytes_of_string (P := P) w src dst e' ⟨⟨l⟩⟩ h1 h2 h3
    rw [hsz, hrow, byteCells_size] at hrun
    have hrun' : (execOp a.eval o).run P w = .ok (.value (.slice (some ⟨w.heap.size, 0, none⟩) l.length (grownCap w l.length 0 e'))) (w.drew.alloc (.cells (byteCells l (grownCap w l.length 0 e' - l.length)) e' (l.length + (grownCap w l.length 0 e' - l.length), l.length + (grownCap w l.length 0 e' - l.length) + 1))) := by
      simp [execOp, hop, hy, hrun, Result.andThen]
    unfold Oper.wp
    rw [hrun']
    refine hK (fun _ => .bool false, fun i => if i = 0 then [w.heap.size] else [grownCap w l.length 0 e' - l.length]) ok _ _ ?_ (fun _ h => .inl h)
    simp only [Nat.one_ne_zero, if_true, if_false, List.headD_cons]
    have hb : Below w.heap.size w (w.drew.alloc (.cells (byteCells l (grownCap w l.length 0 e' - l.length)) e' (l.length + (grownCap w l.length 0 e' - l.length), l.length + (grownCap w l.length 0 e' - l.length) + 1))) := (Below.refl _ w).drew.alloc (Nat.le_refl _) _
    have h4 := hI.newHold (m := m) hb (MapKept.heap_alloc w.drew _).1 (Nat.le_refl _) hm
    have hde : (get ((m, Slot.hold w.heap.size (.cells (byteCells l (grownCap w l.length 0 e' - l.length)) e' (l.length + (grownCap w l.length 0 e' - l.length), l.length + (grownCap w l.length 0 e' - l.length) + 1))) :: E) d).excl = false := by
      simp only [get, if_neg (Ne.symm hdm)]; exact hp
    rw [hdst]
    exact h4.put (hdN d rfl) (okPut_of hde _) (by simp only [SlotOK, Rep]; exact ⟨by rw [show l.length + (grownCap w l.length 0 e' - l.length) = grownCap w l.length 0 e' by omega], oneV_slice _ _ _⟩) (fun b hb => absurd hb (blkP_none rfl))
theorem sem_b2sP {d m b cap : Nat} {x : X} {l : List UInt8} {n xt : Nat} {e : TypeId} {fz : Nat × Nat} (hx : vw E x = .v (.val (.slice (some ⟨b, 0, none⟩) n cap))) (hn : n = l.length) (hg : get E m = .hold b (.cells (byteCells l xt) e fz)) (hp : (get E d).excl = false) : SemStep P (some d) (.b2s x) E (fun _ => (d, .v (.str l)) :: E) := by
  subst hn
  refine sem_gives (okPut_of hp _) rfl (fun ok N B w0 a w op hI hc => ?_)
  cases op <;> try (simp [chkOp, chk] at hc; done)
  case call c => rcases not_call_chk hc with ⟨_, h⟩ | ⟨_, h⟩ | ⟨_, _, h⟩ | ⟨_, _, h⟩ | ⟨_, _, _, _, _, h⟩ | ⟨_, _, h⟩ | ⟨_, _, _, h⟩ <;> simp at h
  case convert src dst y =>
    simp only [chkOp, chkB2s, Bool.and_eq_true] at hc
    obtain ⟨hm, h1, h2⟩ := hc
    split at h1
    case h_2 => exact (Bool.false_ne_true h1).elim
    rename_i e' hel
    split at h1
    case h_2 => exact (Bool.false_ne_true h1).elim
    rename_i hue
    split at h2
    case h_2 => exact (Bool.false_ne_true h2).elim
    rename_i hud
    have hs := mx_ok hI hm
    rw [hx] at hs
    simp only [SlotOK, Rep] at hs
    have hh := hI.slot m
    rw [hg] at hh
    intro d' ty pos af gd
    refine ⟨.string ⟨⟨l⟩⟩, ?_, by simp [SlotOK, Rep]⟩
    have hrun := run_convert_bytes_back (P := P) w src dst e' ⟨b, 0, none⟩ cap l (elemT_some hel) hue hud (fun j hj => by
      rw [addr_add]
      have hge := byteCells_get (x := xt) hj
      simp only [World.cell?, hh.1, Nat.zero_add]
      simpa using hge)
    simp [execOp, hs.1, hrun]
theorem sem_lenP {d n cap : Nat} {ad : Option Addr} {x : X} (hx : vw E x = .v (.val (.slice ad n cap))) (hp : (get E d).excl = false) : SemStep P (some d) (.len x) E (fun _ => (d, .v (.int .i64 n)) :: E) := by
  refine sem_gives (okPut_of hp _) rfl (fun ok N B w0 a w op hI hc => ?_)
  obtain ⟨c, hop, h1⟩ : ∃ c, op = .call c ∧ chkOp P (.call c) (.len x) = true := by
    cases op <;> try (simp [chkOp, chk] at hc; done)
    case call c => exact ⟨c, rfl, hc⟩
  subst hop
  simp only [chkOp] at h1
  obtain ⟨callee, args, tys⟩ := c
  cases callee with
  | builtin b =>
    have h2 : chkB P b args.toList tys.toList (.len x) = true := by
      cases b <;> first | exact h1 | (simp only [chkCall] at h1; split at h1 <;> simp_all)
    unfold chkB at h2
    split at h2 <;> try (simp at h2; done)
    case h_2 => rename_i h5; cases h5
    case h_3 => rename_i h5; cases h5
    case h_4 => rename_i h5; cases h5
    rename_i y t x' h3 h4 h5
    have e1 : args = #[y] := by apply Array.toList_inj.1; simpa using h3
    have e2 : tys = #[t] := by apply Array.toList_inj.1; simpa using h4
    simp only [AOp.len.injEq] at h5
    subst e1 e2 h5
    simp only [Bool.and_eq_true, Option.isSome_iff_exists] at h2
    obtain ⟨hmx, e', hel⟩ := h2
    have hu := elemT_some hel
    have hs := mx_ok hI hmx
    rw [hx] at hs
    simp only [SlotOK, Rep] at hs
    intro d ty pos af gd
    exact ⟨.int .i64 n, by simp [execOp, resolve, invoke, builtin, Builtin.len_, hs.1, run_underlying hu, goInt], by simp [SlotOK, Rep]⟩
  | value y => cases y <;> (simp only [chkCall] at h1; first | contradiction | (split at h1 <;> simp_all))
  | _ => simp [chkCall] at h1
theorem gh_box {d m : Nat} {ds : List DV} {vs : List Value} (hg : get E d = .box ds) (hds : All2 DV.is ds vs) (hm : get E m = .undef) :
    Ghost E (fun u => (d, .v (.val (.pointer (some ⟨(u.2 0).headD 0, 0, none⟩)))) :: (m, .hold ((u.2 0).headD 0) (.cells vs.toArray ((u.2 1).headD 0) (0, 0))) :: drop1 d E) := by
  intro ok N B w0 a w hI
  have hdm : d ≠ m := fun e => by subst e; rw [hg] at hm; simp at hm
  have hs := hI.slot d
  rw [hg] at hs
  obtain ⟨b, cs, t, hv, hB, hno, hh, hall⟩ := hs
  have hcs : cs = vs.toArray := by
    apply Array.toList_inj.1
    have : ∀ {ds : List DV} {vs us : List Value}, All2 DV.is ds vs → All2 (Rep ok w) ds us → us = vs := by
      intro ds
      induction ds with
      | nil => intro vs us h1 h2; cases vs <;> cases us <;> simp_all [All2]
      | cons d ds ih =>
        intro vs us h1 h2
        cases vs with
        | nil => exact h1.elim
        | cons v vs =>
          cases us with
          | nil => exact h2.elim
          | cons u us => rw [DV.is_of h1.1 h2.1, ih h1.2 h2.2]
    exact this hds hall
  subst hcs
  have h1 := hI.forget1 d
  refine ⟨(fun _ => .bool false, fun i => if i = 0 then [b] else [t]), ok, ?_, fun _ h => .inl h⟩
  simp only [Nat.one_ne_zero, if_true, if_false, List.headD_cons]
  have h2 := h1.addName (m := m) (s := .hold b (.cells vs.toArray t (0, 0))) (get_drop1_undef hm) (fun a' => ⟨hh, hno, .inl hB⟩) (fun _ => rfl) (fun c hc n hn => by
    have e : b = c := hc
    subst e
    rw [get_drop1] at hn
    split at hn
    · simp [blkP] at hn
    · rename_i hne
      have := hI.apart d n b (by rw [hg, hv]; rfl) hn
      exact hne (.inl this))
  refine h2.addName (m := d) (s := .v (.val (.pointer (some ⟨b, 0, none⟩)))) (by simp only [get, if_neg (Ne.symm hdm)]; rw [get_drop1, if_pos (.inl rfl)]) (fun a' => ?_) (fun _ => rfl) (fun b hb => by simp [blkP] at hb)
  have hv' : tm a d = .pointer (some ⟨b, 0, none⟩) := hv
  rw [hv']
  simp only [SlotOK, Rep]; exact ⟨trivial, oneV_ptr _⟩
end
section
variable {P : Program} {Q : Env → Prop} {l : List GOp} {keep : List Nat} {k : List It} {E : Env}
theorem mid_box {d : Nat} {ds : List DV} {vs : List Value} (m : Nat) (hg : get E d = .box ds) (hds : All2 DV.is ds vs) (hm : get E m = .undef) (h : ∀ b t, Mid 0 P Q l keep k ((d, .v (.val (.pointer (some ⟨b, 0, none⟩)))) :: (m, .hold b (.cells vs.toArray t (0, 0))) :: drop1 d E)) : Mid 0 P Q l keep k E :=
  mid_gh (gh_box hg hds hm) (fun u => h _ _)
theorem mid_fldP {d off b o o' : Nat} {x : X} (hx : vw E x = .v (.val (.pointer (some ⟨b, o, none⟩)))) (hp : (get E d).excl = false) (ho : o + off = o') (hm : Mid 0 P Q l keep k ((d, .v (.val (.pointer (some ⟨b, o', none⟩)))) :: E)) : Mid 0 P Q (⟨some d, none, .fld x off⟩ :: l) keep k E := by
  subst ho; exact mid_sem (sem_fldP hx hp) (fun _ => hm)
theorem mid_ldP {d m b o : Nat} {x : X} {cs : Array Value} {t : TypeId} {fz : Nat × Nat} {u : Value} {dv : DV} (hx : vw E x = .v (.val (.pointer (some ⟨b, o, none⟩)))) (hg : get E m = .hold b (.cells cs t fz)) (hv : cs[o]? = some u) (hd : dv.is u)
    (hp : (get E d).excl = false) (hm : Mid 0 P Q l keep k ((d, .v dv) :: E)) : Mid 0 P Q (⟨some d, none, .ld x⟩ :: l) keep k E := mid_sem (sem_ldP hx hg hv hd hp) (fun _ => hm)
theorem mid_idxP {d sz b o o' n cap : Nat} {x j : X} {ki : IntKind} {i : Nat} (hx : vw E x = .v (.val (.slice (some ⟨b, o, none⟩) n cap))) (hk : vw E j = .v (.int ki (i : Int))) (h1 : i < n) (ho : o + i * sz = o')
    (hp : (get E d).excl = false) (hm : Mid 0 P Q l keep k ((d, .v (.val (.pointer (some ⟨b, o', none⟩)))) :: E)) : Mid 0 P Q (⟨some d, none, .idx sz x j⟩ :: l) keep k E := by
  subst ho; exact mid_sem (sem_idxP hx hk h1 hp) (fun _ => hm)
theorem mid_stoP {m b o : Nat} {ad x : X} {cs cs' : Array Value} {t : TypeId} {fz : Nat × Nat} {dv : DV} {u : Value} (ha : vw E ad = .v (.val (.pointer (some ⟨b, o, none⟩)))) (hg : get E m = .hold b (.cells cs t fz)) (hx : vw E x = .v dv) (hd : dv.is u) (ho : o < cs.size) (hf : ¬ (fz.1 ≤ o ∧ o < fz.2)) (hcs : cs.setIfInBounds o u = cs')
    (hm : Mid 0 P Q l keep k ((m, .hold b (.cells cs' t fz)) :: E)) : Mid 0 P Q (⟨none, none, .sto 1 ad x⟩ :: l) keep k E := mid_sem (sem_stoP ha hg hx hd ho hf hcs) (fun _ => hm)
theorem mid_mkf {d : Nat} {f : FuncId} {xs : List X} {cs : List Value} (hav : argsV E xs = some (cs.map fun v => .v (.val v))) (hpure : argsPure E xs = true) (hp : (get E d).excl = false)
    (hm : Mid 0 P Q l keep k ((d, .v (.val (.func (.func f) #[] cs.toArray))) :: E)) : Mid 0 P Q (⟨some d, none, .mkf f xs⟩ :: l) keep k E := mid_sem (sem_mkf hav hpure hp) (fun _ => hm)
theorem mid_mkm {d : Nat} {t : TypeId} (m : Nat) (hm : get E m = .undef) (hp : (get E d).excl = false) (hdm : d ≠ m)
    (h : ∀ b, Mid 0 P Q l keep k ((d, .v (.val (.map (some b)))) :: (m, .hold b (.map (entA []) 0)) :: E)) : Mid 0 P Q (⟨some d, none, .mkm t⟩ :: l) keep k E := mid_sem (sem_mkm hm hp hdm) (fun u => h _)
theorem mid_mpu {m b : Nat} {t : TypeId} {x y z : X} {ks : List Int} {i : Int} (hx : vw E x = .v (.val (.map (some b)))) (hg : get E m = .hold b (.map (entA ks) ks.length)) (hy : vw E y = .v (.int .i64 i)) (hz : vw E z = .v (.int .i64 1))
    (hm : Mid 0 P Q l keep k ((m, .hold b (.map (entA (addKey ks i)) (addKey ks i).length)) :: E)) : Mid 0 P Q (⟨none, none, .mpu t x y z⟩ :: l) keep k E := mid_sem (sem_mpu hx hg hy hz) (fun _ => hm)
theorem mid_mpl {d m b : Nat} {t : TypeId} {x y : X} {ks : List Int} {i : Int} {clock : Nat} (hx : vw E x = .v (.val (.map (some b)))) (hg : get E m = .hold b (.map (entA ks) clock)) (hy : vw E y = .v (.int .i64 i)) (hp : (get E d).excl = false)
    (hm : Mid 0 P Q l keep k ((d, .v (.int .i64 (if ks.contains i then 1 else 0))) :: E)) : Mid 0 P Q (⟨some d, none, .mpl t x y⟩ :: l) keep k E := mid_sem (sem_mpl hx hg hy hp) (fun _ => hm)
theorem mid_s2b {d : Nat} {e : TypeId} {x : X} {s : List UInt8} (m : Nat) (hx : vw E x = .v (.str s)) (hm : get E m = .undef) (hp : (get E d).excl = false) (hdm : d ≠ m)
    (h : ∀ b xt, Mid 0 P Q l keep k ((d, .v (.val (.slice (some ⟨b, 0, none⟩) s.length (s.length + xt)))) :: (m, .hold b (.cells (byteCells s xt) e (s.length + xt, s.length + xt + 1))) :: E)) : Mid 0 P Q (⟨some d, none, .s2b e x⟩ :: l) keep k E :=
  mid_sem (sem_s2b hx hm hp hdm) (fun u => h _ _)
theorem mid_b2sP {d m b cap : Nat} {x : X} {s : List UInt8} {n xt : Nat} {e : TypeId} {fz : Nat × Nat} (hx : vw E x = .v (.val (.slice (some ⟨b, 0, none⟩) n cap))) (hn : n = s.length) (hg : get E m = .hold b (.cells (byteCells s xt) e fz)) (hp : (get E d).excl = false)
    (hm : Mid 0 P Q l keep k ((d, .v (.str s)) :: E)) : Mid 0 P Q (⟨some d, none, .b2s x⟩ :: l) keep k E := mid_sem (sem_b2sP hx hn hg hp) (fun _ => hm)
theorem mid_lenP {d n cap : Nat} {ad : Option Addr} {x : X} (hx : vw E x = .v (.val (.slice ad n cap))) (hp : (get E d).excl = false) (hm : Mid 0 P Q l keep k ((d, .v (.int .i64 n)) :: E)) : Mid 0 P Q (⟨some d, none, .len x⟩ :: l) keep k E := mid_sem (sem_lenP hx hp) (fun _ => hm)
theorem mid_callP {d : Nat} {s : Slot} {f : FuncId} {xs : List X} {args : List AV} {rs : List RV} {hin : List (Nat × Obj)} {hout : List Obj} (ms : List Nat) (hOK : CallsP P f args hin hout rs) (hg : GetP E ms hin) (hms : ms.Nodup) (hav : argsV E xs = some args) (hpure : argsPure E xs = true)
    (hs : resSlot rs = some s) (hn : noOwn rs = true) (hd : (get E d).excl = false) (hdm : d ∉ ms) (hm : Mid 0 P Q l keep k ((d, s) :: (envP ms (hin.map (·.1)) hout ++ E))) : Mid 0 P Q (⟨some d, none, .call f xs⟩ :: l) keep k E :=
  mid_sem (sem_callP ms hOK hg hms hav hpure hs hn hd hdm) (fun _ => hm)
theorem mid_callvP {d : Nat} {s : Slot} {f : FuncId} {cs : Array Value} {x : X} {xs : List X} {args : List AV} {rs : List RV} {hin : List (Nat × Obj)} {hout : List Obj} (ms : List Nat) (hf : callable P f = true) (hx : vw E x = .v (.val (.func (.func f) #[] cs))) (hcs : ∀ v ∈ cs.toList, OneV v) (hOK : CallsP P f (args ++ cs.toList.map fun v => .v (.val v)) hin hout rs)
    (hg : GetP E ms hin) (hms : ms.Nodup) (hav : argsV E xs = some args) (hpure : argsPure E xs = true)
    (hs : resSlot rs = some s) (hn : noOwn rs = true) (hd : (get E d).excl = false) (hdm : d ∉ ms) (hm : Mid 0 P Q l keep k ((d, s) :: (envP ms (hin.map (·.1)) hout ++ E))) : Mid 0 P Q (⟨some d, none, .callv x xs⟩ :: l) keep k E :=
  mid_sem (sem_callvP ms hf hx hcs hOK hg hms hav hpure hs hn hd hdm) (fun _ => hm)
end
end Go.Rd

namespace Go.Rd
open Go.RowKit
section
variable {P : Program} {ok : Nat → Prop} {N : Nat} {B : Bd} {w0 : World} {E : Env} {a : Act} {w : World}
theorem is_all : ∀ {ds : List DV} {vs us : List Value}, All2 DV.is ds vs → All2 (Rep ok w) ds us → us = vs
  | [], [], [], _, _ => rfl
  | [], _ :: _, _, h, _ => h.elim
  | [], [], _ :: _, _, h => h.elim
  | _ :: _, [], _, h, _ => h.elim
  | _ :: _, _ :: _, [], _, h => h.elim
  | d :: ds, v :: vs, u :: us, h1, h2 => by rw [DV.is_of h1.1 h2.1, is_all h1.2 h2.2]
theorem range_map_getD {α : Type} (l : List α) (x : α) : (List.range l.length).map (fun i => l.getD i x) = l := by
  refine List.ext_getElem? (fun i => ?_)
  by_cases hi : i < l.length
  · rw [List.getElem?_map, List.getElem?_range hi, List.getElem?_eq_getElem hi]
    simp [List.getD_eq_getElem?_getD, List.getElem?_eq_getElem hi]
  · rw [List.getElem?_eq_none (by simpa using hi), List.getElem?_eq_none (by omega)]
theorem gh_own {d m e sz bys : Nat} {es : List (List DV)} {vs : List Value} (hg : get E d = .own e sz bys es) (hds : All2 DV.is es.flatten vs) (hne : es ≠ []) (hm : get E m = .undef) :
    Ghost E (fun u => (d, .v (.val (.slice (some ⟨(u.2 0).headD 0, 0, none⟩) es.length ((u.2 1).headD 0)))) :: (m, .hold ((u.2 0).headD 0) (.cells (vs ++ (List.range ((u.2 2).headD 0)).map u.1).toArray e (0, 0))) :: drop1 d E) := by
  intro ok N B w0 a w hI
  have hdm : d ≠ m := fun e => by subst e; rw [hg] at hm; simp at hm
  have hs := hI.slot d
  rw [hg] at hs
  have hs' : OwnRep B.n ok w e sz es (tm a d) := hs
  rcases own_full hs' with ⟨_, h3⟩ | ⟨g, cap, cur, h2, hB, hh, hc, hcm, hcs, hno, hr⟩
  · exact absurd h3 hne
  have hv := is_all hds hr
  have h1 := hI.forget1 d
  have hcur : (vs ++ (List.range (cur.toList.drop (es.length * sz)).length).map (fun i => (cur.toList.drop (es.length * sz)).getD i (.bool false))).toArray = cur := by
    rw [range_map_getD, ← hv, List.take_append_drop]
  refine ⟨(fun i => (cur.toList.drop (es.length * sz)).getD i (.bool false), fun i => if i = 0 then [g] else if i = 1 then [cap] else [(cur.toList.drop (es.length * sz)).length]), ok, ?_, fun _ h => .inl h⟩
  simp only [Nat.one_ne_zero, if_true, if_false, List.headD_cons, show (2 : Nat) ≠ 0 by decide, show (2 : Nat) ≠ 1 by decide]
  rw [hcur]
  have h2' := h1.addName (m := m) (s := .hold g (.cells cur e (0, 0))) (get_drop1_undef hm) (fun a' => ⟨hh, hno, .inl hB⟩) (fun _ => rfl) (fun c hc n hn => by
    have e : g = c := hc
    subst e
    rw [get_drop1] at hn
    split at hn
    · simp [blkP] at hn
    · rename_i hne
      have := hI.apart d n g (by rw [hg, h2]; rfl) hn
      exact hne (.inl this))
  refine h2'.addName (m := d) (by simp only [get, if_neg (Ne.symm hdm)]; rw [get_drop1, if_pos (.inl rfl)]) (fun a' => ?_) (fun _ => rfl) (fun b hb => by simp [blkP] at hb)
  rw [h2]
  simp only [SlotOK, Rep]; exact ⟨trivial, oneV_slice _ _ _⟩
theorem lo_fldP {d off b o : Nat} {x : X} (hx : vw E x = .v (.val (.pointer (some ⟨b, o, none⟩)))) (hd : (get E d).excl = false) : LocO P (some d) (.fld x off) E ⟨d :: rdL E x.reads, [], [(d, .v (.val (.pointer (some ⟨b, o + off, none⟩))))]⟩ := fun E' h1 _ => by
  have hg := agree_of (fun n hn => h1 n (List.mem_cons_of_mem _ hn))
  exact ⟨_, fun _ => rfl, sem_fldP (by rw [vw_congr hg]; exact hx) (by rw [h1 d (by simp)]; exact hd)⟩
theorem lo_ldP {d m b o : Nat} {x : X} {cs : Array Value} {t : TypeId} {fz : Nat × Nat} {u : Value} {dv : DV} (hx : vw E x = .v (.val (.pointer (some ⟨b, o, none⟩)))) (hg : get E m = .hold b (.cells cs t fz)) (hv : cs[o]? = some u) (hdv : dv.is u) (hd : (get E d).excl = false) :
    LocO P (some d) (.ld x) E ⟨d :: m :: rdL E x.reads, [], [(d, .v dv)]⟩ := fun E' h1 _ => by
  have hag := agree_of (fun n hn => h1 n (List.mem_cons_of_mem _ (List.mem_cons_of_mem _ hn)))
  exact ⟨_, fun _ => rfl, sem_ldP (by rw [vw_congr hag]; exact hx) (by rw [h1 m (by simp)]; exact hg) hv hdv (by rw [h1 d (by simp)]; exact hd)⟩
theorem getP_congr {E' : Env} : ∀ {ms : List Nat} {hin : List (Nat × Obj)}, (∀ n ∈ ms, get E' n = get E n) → GetP E ms hin → GetP E' ms hin
  | [], [], _, _ => trivial
  | [], _ :: _, _, h => h.elim
  | _ :: _, [], _, h => h.elim
  | n :: ms, p :: hin, h1, h2 => ⟨by rw [h1 n (by simp)]; exact h2.1, getP_congr (fun m hm => h1 m (by simp [hm])) h2.2⟩
theorem lo_callvP {d : Nat} {s : Slot} {f : FuncId} {cs : Array Value} {x : X} {xs : List X} {args : List AV} {rs : List RV} {hin : List (Nat × Obj)} {hout : List Obj} (ms : List Nat) (hf : callable P f = true) (hx : vw E x = .v (.val (.func (.func f) #[] cs))) (hcs : ∀ v ∈ cs.toList, OneV v) (hOK : CallsP P f (args ++ cs.toList.map fun v => .v (.val v)) hin hout rs)
    (hg : GetP E ms hin) (hms : ms.Nodup) (hav : argsV E xs = some args) (hpure : argsPure E xs = true)
    (hs : resSlot rs = some s) (hn : noOwn rs = true) (hd : (get E d).excl = false) (hdm : d ∉ ms) :
    LocO P (some d) (.callv x xs) E ⟨d :: ms ++ rdL E (x.reads ++ xs.flatMap X.reads), [], (d, s) :: envP ms (hin.map (·.1)) hout⟩ := fun E' h1 _ => by
  have hag := agree_of (fun n hn => h1 n (List.mem_append_right _ hn))
  have hagx : ∀ n ∈ x.reads, Agree E E' n := fun n hn => hag n (List.mem_append_left _ hn)
  have hagxs : ∀ n ∈ xs.flatMap X.reads, Agree E E' n := fun n hn => hag n (List.mem_append_right _ hn)
  exact ⟨_, fun _ => rfl, sem_callvP ms hf (by rw [vw_congr hagx]; exact hx) hcs hOK (getP_congr (fun n hn => h1 n (by simp [hn])) hg) hms (by rw [argsV_congr xs hagxs]; exact hav) (by rw [argsPure_congr xs hagxs]; exact hpure) hs hn (by rw [h1 d (by simp)]; exact hd) hdm⟩
end
section
variable {P : Program} {Q : Env → Prop} {cl : List (List Nat)} {l : List GOp} {keep : List Nat} {k : List It} {E : Env} {tr : List TrE}
theorem goPf {d off b o o' : Nat} {x : X} (hx : vw E x = .v (.val (.pointer (some ⟨b, o, none⟩)))) (hd : (get E d).excl = false) (ho : o + off = o')
    (hm : AnyM P Q cl l keep k ((d, .v (.val (.pointer (some ⟨b, o', none⟩)))) :: E) (⟨d :: rdL E x.reads, [], [(d, .v (.val (.pointer (some ⟨b, o', none⟩))))]⟩ :: tr)) : AnyM P Q cl (⟨some d, none, .fld x off⟩ :: l) keep k E tr := by
  subst ho; exact any_cons (loc_none (lo_fldP hx hd)) hm
theorem goPl {d m b o : Nat} {x : X} {cs : Array Value} {t : TypeId} {fz : Nat × Nat} {u : Value} {dv : DV} (hx : vw E x = .v (.val (.pointer (some ⟨b, o, none⟩)))) (hg : get E m = .hold b (.cells cs t fz)) (hv : cs[o]? = some u) (hdv : dv.is u) (hd : (get E d).excl = false)
    (hm : AnyM P Q cl l keep k ((d, .v dv) :: E) (⟨d :: m :: rdL E x.reads, [], [(d, .v dv)]⟩ :: tr)) : AnyM P Q cl (⟨some d, none, .ld x⟩ :: l) keep k E tr := any_cons (loc_none (lo_ldP hx hg hv hdv hd)) hm
theorem goPc {d : Nat} {s : Slot} {f : FuncId} {cs : Array Value} {x : X} {xs : List X} {args : List AV} {rs : List RV} {hin : List (Nat × Obj)} {hout : List Obj} (ms : List Nat) (hf : callable P f = true) (hx : vw E x = .v (.val (.func (.func f) #[] cs))) (hcs : ∀ v ∈ cs.toList, OneV v) (hOK : CallsP P f (args ++ cs.toList.map fun v => .v (.val v)) hin hout rs)
    (hg : GetP E ms hin) (hms : ms.Nodup) (hav : argsV E xs = some args) (hpure : argsPure E xs = true) (hs : resSlot rs = some s) (hn : noOwn rs = true) (hd : (get E d).excl = false) (hdm : d ∉ ms)
    (hm : AnyM P Q cl l keep k (((d, s) :: envP ms (hin.map (·.1)) hout) ++ E) (⟨d :: ms ++ rdL E (x.reads ++ xs.flatMap X.reads), [], (d, s) :: envP ms (hin.map (·.1)) hout⟩ :: tr)) : AnyM P Q cl (⟨some d, none, .callv x xs⟩ :: l) keep k E tr :=
  any_cons (loc_none (lo_callvP ms hf hx hcs hOK hg hms hav hpure hs hn hd hdm)) hm
theorem goPcQ {d : Nat} {s : Slot} {E' : Env} {f : FuncId} {cs : Array Value} {x : X} {xs : List X} {args : List AV} {rs : List RV} {hin : List (Nat × Obj)} {hout : List Obj} (ms : List Nat) (hf : callable P f = true) (hx : vw E x = .v (.val (.func (.func f) #[] cs))) (hcs : ∀ v ∈ cs.toList, OneV v) (hOK : CallsP P f (args ++ cs.toList.map fun v => .v (.val v)) hin hout rs)
    (hg : GetP E ms hin) (hms : ms.Nodup) (hav : argsV E xs = some args) (hpure : argsPure E xs = true) (hs : resSlot rs = some s) (hn : noOwn rs = true) (hd : (get E d).excl = false) (hdm : d ∉ ms) (hE : catE ((d, s) :: envP ms (hin.map (·.1)) hout) E = some E')
    (hm : AnyM P Q cl l keep k E' (⟨d :: ms ++ rdL E (x.reads ++ xs.flatMap X.reads), [], (d, s) :: envP ms (hin.map (·.1)) hout⟩ :: tr)) : AnyM P Q cl (⟨some d, none, .callv x xs⟩ :: l) keep k E tr := by
  rw [catE_eq] at hE
  simp only [Option.some.injEq] at hE; subst hE
  exact goPc ms hf hx hcs hOK hg hms hav hpure hs hn hd hdm hm
theorem goPq {d : Nat} {x y : X} {ki : IntKind} {i j q : Int} (hx : vw E x = .v (.int ki i)) (hy : vw E y = .v (.int ki j)) (h0 : j ≠ 0) (hq : ki.wrap (i.tdiv j) = q) (hd : (get E d).excl = false)
    (hm : AnyM P Q cl l keep k ((d, .v (.int ki q)) :: E) (⟨d :: rdL E (AOp.bin .quo x y).reads, [], [(d, .v (.int ki q))]⟩ :: tr)) : AnyM P Q cl (⟨some d, none, .bin .quo x y⟩ :: l) keep k E tr := by
  subst hq
  exact any_cons (loc_none (lo_pure (by simp only [ev, hx, hy, binD, intD, if_true, if_neg h0]; rfl) hd)) hm
theorem goPr {d : Nat} {x y : X} {ki : IntKind} {i j q : Int} (hx : vw E x = .v (.int ki i)) (hy : vw E y = .v (.int ki j)) (h0 : j ≠ 0) (hq : i.tmod j = q) (hd : (get E d).excl = false)
    (hm : AnyM P Q cl l keep k ((d, .v (.int ki q)) :: E) (⟨d :: rdL E (AOp.bin .rem x y).reads, [], [(d, .v (.int ki q))]⟩ :: tr)) : AnyM P Q cl (⟨some d, none, .bin .rem x y⟩ :: l) keep k E tr := by
  subst hq
  exact any_cons (loc_none (lo_pure (by simp only [ev, hx, hy, binD, intD, if_true, if_neg h0]; rfl) hd)) hm
end
section
variable {P : Program} {Q : Env → Prop} {l : List GOp} {keep : List Nat} {k : List It} {E : Env}
theorem mid_own {d e sz bys : Nat} {es : List (List DV)} {vs : List Value} (m : Nat) (hg : get E d = .own e sz bys es) (hds : All2 DV.is es.flatten vs) (hne : es ≠ []) (hm : get E m = .undef)
    (h : ∀ (b cap : Nat) (rest : List Value), Mid 0 P Q l keep k ((d, .v (.val (.slice (some ⟨b, 0, none⟩) es.length cap))) :: (m, .hold b (.cells (vs ++ rest).toArray e (0, 0))) :: drop1 d E)) : Mid 0 P Q l keep k E :=
  mid_gh (gh_own hg hds hne hm) (fun u => h _ _ _)
theorem mid_callvQ {d : Nat} {s : Slot} {E' : Env} {f : FuncId} {cs : Array Value} {x : X} {xs : List X} {args : List AV} {rs : List RV} {hin : List (Nat × Obj)} {hout : List Obj} (ms : List Nat) (hf : callable P f = true) (hx : vw E x = .v (.val (.func (.func f) #[] cs))) (hcs : ∀ v ∈ cs.toList, OneV v) (hOK : CallsP P f (args ++ cs.toList.map fun v => .v (.val v)) hin hout rs)
    (hg : GetP E ms hin) (hms : ms.Nodup) (hav : argsV E xs = some args) (hpure : argsPure E xs = true)
    (hs : resSlot rs = some s) (hn : noOwn rs = true) (hd : (get E d).excl = false) (hdm : d ∉ ms) (hE : catE ((d, s) :: envP ms (hin.map (·.1)) hout) E = some E') (hm : Mid 0 P Q l keep k E') : Mid 0 P Q (⟨some d, none, .callv x xs⟩ :: l) keep k E := by
  rw [catE_eq] at hE
  simp only [Option.some.injEq] at hE; subst hE
  exact mid_callvP ms hf hx hcs hOK hg hms hav hpure hs hn hd hdm hm
theorem mid_callQ {d : Nat} {s : Slot} {E' : Env} {f : FuncId} {xs : List X} {args : List AV} {rs : List RV} {hin : List (Nat × Obj)} {hout : List Obj} (ms : List Nat) (hOK : CallsP P f args hin hout rs) (hg : GetP E ms hin) (hms : ms.Nodup) (hav : argsV E xs = some args) (hpure : argsPure E xs = true)
    (hs : resSlot rs = some s) (hn : noOwn rs = true) (hd : (get E d).excl = false) (hdm : d ∉ ms) (hE : catE ((d, s) :: envP ms (hin.map (·.1)) hout) E = some E') (hm : Mid 0 P Q l keep k E') : Mid 0 P Q (⟨some d, none, .call f xs⟩ :: l) keep k E := by
  rw [catE_eq] at hE
  simp only [Option.some.injEq] at hE; subst hE
  exact mid_callP ms hOK hg hms hav hpure hs hn hd hdm hm
theorem mid_idxPn {d sz b o o' n cap : Nat} {x j : X} {ki : IntKind} {jz : Int} {i : Nat} (hj : jz = (i : Int)) (h1 : i < n) (ho : o + i * sz = o') (hx : vw E x = .v (.val (.slice (some ⟨b, o, none⟩) n cap))) (hk : vw E j = .v (.int ki jz))
    (hp : (get E d).excl = false) (hm : Mid 0 P Q l keep k ((d, .v (.val (.pointer (some ⟨b, o', none⟩)))) :: E)) : Mid 0 P Q (⟨some d, none, .idx sz x j⟩ :: l) keep k E := mid_idxP hx (by rw [hk, hj]) h1 ho hp hm
theorem mid_sidxn {d n : Nat} {x i : X} {ki : IntKind} {jz c : Int} {s : List UInt8} (hj : jz = (n : Int)) (hn : n < s.length) (hc : (s[n].toNat : Int) = c) (hx : vw E x = .v (.str s)) (hi : vw E i = .v (.int ki jz)) (hp : okPut d (.v (.int .u8 c)) E = true)
    (hm : Mid 0 P Q l keep k ((d, .v (.int .u8 c)) :: E)) : Mid 0 P Q (⟨some d, none, .sidx x i⟩ :: l) keep k E := by
  subst hc; exact mid_sidxs hx (by rw [hi, hj]) hn hp hm
end
def boolCells (m : List Bool) (rest : List Value) : Array Value := (m.map Value.bool ++ rest).toArray
theorem boolCells_size (m : List Bool) (rest : List Value) : (boolCells m rest).size = m.length + rest.length := by simp [boolCells]
theorem boolCells_get {m : List Bool} {rest : List Value} {i : Nat} {v : Bool} (h : i < m.length) (hv : m.getD i false = v) : (boolCells m rest)[i]? = some (.bool v) := by
  subst hv
  simp [boolCells, List.getElem?_append_left, h, List.getD_eq_getElem?_getD, List.getElem?_eq_getElem h]
theorem boolCells_set {m : List Bool} {rest : List Value} {i : Nat} {v : Bool} (h : i < m.length) : (boolCells m rest).setIfInBounds i (.bool v) = boolCells (m.set i v) rest := by
  apply Array.toList_inj.1
  simp [boolCells, List.set_append_left, h]
end Go.Rd

namespace Go.Rd
open Go.RowKit
section
variable {P : Program} {E : Env}
theorem lo_idxP {d sz b o n cap : Nat} {x j : X} {ki : IntKind} {k : Nat} (hx : vw E x = .v (.val (.slice (some ⟨b, o, none⟩) n cap))) (hk : vw E j = .v (.int ki (k : Int))) (h1 : k < n) (hd : (get E d).excl = false) :
    LocO P (some d) (.idx sz x j) E ⟨d :: rdL E (x.reads ++ j.reads), [], [(d, .v (.val (.pointer (some ⟨b, o + k * sz, none⟩))))]⟩ := fun E' h2 _ => by
  have hg := agree_of (fun n hn => h2 n (List.mem_cons_of_mem _ hn))
  exact ⟨_, fun _ => rfl, sem_idxP (by rw [vw_congr (fun n hn => hg n (List.mem_append_left _ hn))]; exact hx) (by rw [vw_congr (fun n hn => hg n (List.mem_append_right _ hn))]; exact hk) h1 (by rw [h2 d (by simp)]; exact hd)⟩
theorem lo_stoP {m b o : Nat} {ad x : X} {cs cs' : Array Value} {t : TypeId} {fz : Nat × Nat} {dv : DV} {u : Value} (ha : vw E ad = .v (.val (.pointer (some ⟨b, o, none⟩)))) (hg : get E m = .hold b (.cells cs t fz)) (hx : vw E x = .v dv) (hd : dv.is u) (ho : o < cs.size) (hf : ¬ (fz.1 ≤ o ∧ o < fz.2)) (hcs : cs.setIfInBounds o u = cs') :
    LocO P none (.sto 1 ad x) E ⟨m :: rdL E (ad.reads ++ x.reads), [], [(m, .hold b (.cells cs' t fz))]⟩ := fun E' h2 _ => by
  have hag := agree_of (fun n hn => h2 n (List.mem_cons_of_mem _ hn))
  exact ⟨_, fun _ => rfl, sem_stoP (by rw [vw_congr (fun n hn => hag n (List.mem_append_left _ hn))]; exact ha) (by rw [h2 m (by simp)]; exact hg) (by rw [vw_congr (fun n hn => hag n (List.mem_append_right _ hn))]; exact hx) hd ho hf hcs⟩
end
section
variable {P : Program} {Q : Env → Prop} {cl : List (List Nat)} {l : List GOp} {keep : List Nat} {k : List It} {E : Env} {tr : List TrE}
theorem goPi {d sz b o o' n cap : Nat} {x j : X} {ki : IntKind} {i : Nat} (hx : vw E x = .v (.val (.slice (some ⟨b, o, none⟩) n cap))) (hk : vw E j = .v (.int ki (i : Int))) (h1 : i < n) (ho : o + i * sz = o') (hd : (get E d).excl = false)
    (hm : AnyM P Q cl l keep k ((d, .v (.val (.pointer (some ⟨b, o', none⟩)))) :: E) (⟨d :: rdL E (x.reads ++ j.reads), [], [(d, .v (.val (.pointer (some ⟨b, o', none⟩))))]⟩ :: tr)) : AnyM P Q cl (⟨some d, none, .idx sz x j⟩ :: l) keep k E tr := by
  subst ho; exact any_cons (loc_none (lo_idxP hx hk h1 hd)) hm
theorem goPs {m b o : Nat} {ad x : X} {cs cs' : Array Value} {t : TypeId} {fz : Nat × Nat} {dv : DV} {u : Value} (ha : vw E ad = .v (.val (.pointer (some ⟨b, o, none⟩)))) (hg : get E m = .hold b (.cells cs t fz)) (hx : vw E x = .v dv) (hd : dv.is u) (ho : o < cs.size) (hf : ¬ (fz.1 ≤ o ∧ o < fz.2)) (hcs : cs.setIfInBounds o u = cs')
    (hm : AnyM P Q cl l keep k ((m, .hold b (.cells cs' t fz)) :: E) (⟨m :: rdL E (ad.reads ++ x.reads), [], [(m, .hold b (.cells cs' t fz))]⟩ :: tr)) : AnyM P Q cl (⟨none, none, .sto 1 ad x⟩ :: l) keep k E tr := any_cons (loc_none (lo_stoP ha hg hx hd ho hf hcs)) hm
end
end Go.Rd

namespace Go.Rd
open Go.RowKit
def pickO (gs : List GOp) : List Nat → Option (List GOp)
  | [] => some []
  | i :: fl => match gs[i]?, pickO gs fl with
    | some g, some r => some (g :: r)
    | _, _ => none
theorem pickO_ok {gs : List GOp} : ∀ {fl : List Nat} {r : List GOp}, pickO gs fl = some r → pickL gs fl = r
  | [], r, h => by simp only [pickO, Option.some.injEq] at h; subst h; rfl
  | i :: fl, r, h => by
    simp only [pickO] at h
    split at h
    · rename_i g r' h1 h2
      simp only [Option.some.injEq] at h; subst h
      simp only [pickL, List.map_cons]
      rw [List.getD_eq_getElem?_getD, h1]
      have := pickO_ok h2
      simp only [pickL] at this
      rw [this]; rfl
    · simp at h
def MixP (P : Program) (Q : Env → Prop) (fl : List Nat) (cl : List (List Nat)) (l : List GOp) (keep : List Nat) (k : List It) (tr : List TrE) (E0 EF : Env) (rest done : List Nat) (D : List (Nat × Slot)) : Prop :=
  SpK P cl fl tr E0 EF l (fun E' => RunQ P Q k (keepOnly keep E')) rest done D
def MixF (P : Program) (Q : Env → Prop) (fl : List Nat) (cl : List (List Nat)) (l : List GOp) (keep : List Nat) (k : List It) (gs : List GOp) (E0 E : Env) (tr0 : List TrE) : Prop :=
  ∃ tr EF, Tr P gs E tr EF ∧ flOk cl fl (tr0.reverse ++ tr) = true ∧ (tr0.reverse ++ tr).all (fun e => e.S.isEmpty) = true ∧ MixP P Q fl cl l keep k (tr0.reverse ++ tr) E0 EF (spineL l.length fl) [] []
section
variable {P : Program} {Q : Env → Prop} {fl : List Nat} {cl : List (List Nat)} {l gs : List GOp} {keep : List Nat} {k : List It} {E0 E EF : Env} {tr : List TrE} {rest done : List Nat} {D : List (Nat × Slot)}
theorem mix_run (hp : pickO l fl = some gs) (h : MixF P Q fl cl l keep k gs E E []) : RunQ P Q (.code (.mix fl cl l keep) :: k) E := by
  obtain ⟨tr, EF, h1, h2, h3, h4⟩ := h
  simp only [List.reverse_nil, List.nil_append] at h2 h3 h4
  exact .mix (by rw [pickO_ok hp]; exact h1) h2 h3 h4 (fun _ h => h)
theorem mixF_cons {g : GOp} {e : TrE} (h : Loc P g E e) (hm : MixF P Q fl cl l keep k gs E0 (e.W ++ E) (e :: tr)) : MixF P Q fl cl l keep k (g :: gs) E0 E tr := by
  obtain ⟨tr', EF, h1, h2, h3, h4⟩ := hm
  refine ⟨e :: tr', EF, .cons h h1, ?_, ?_, ?_⟩
  · simpa using h2
  · simpa using h3
  · simpa using h4
theorem goF {g : GOp} {e : TrE} {E1 : Env} (h : nextA g E = some (e, E1)) (hm : MixF P Q fl cl l keep k gs E0 E1 (e :: tr)) : MixF P Q fl cl l keep k (g :: gs) E0 E tr := by
  unfold nextA at h
  split at h
  · rename_i dst op
    split at h
    case h_2 => simp at h
    rename_i ho
    rw [catE_eq] at h
    simp only [Option.some.injEq, Prod.mk.injEq] at h; obtain ⟨rfl, rfl⟩ := h
    exact mixF_cons (loc_none (nextO_ok ho)) hm
  · rename_i dst n b op
    split at h
    · rename_i b' hg
      split at h
      · rename_i hb
        have hb' : b' = b := by simpa using hb
        subst hb'
        split at h
        case h_2 => simp at h
        rename_i ho
        rw [catE_eq] at h
        simp only [Option.some.injEq, Prod.mk.injEq] at h; obtain ⟨rfl, rfl⟩ := h
        exact mixF_cons (loc_yes hg (nextO_ok ho)) hm
      · rename_i hb
        split at h
        case h_2 => simp at h
        split at h
        · simp at h
        rename_i hd
        simp only [Option.some.injEq, Prod.mk.injEq] at h; obtain ⟨rfl, rfl⟩ := h
        exact mixF_cons (loc_no (.inl ⟨b', hg, by simpa using hb⟩) (by simpa using hd)) hm
    · rename_i hg
      split at h
      case h_2 => simp at h
      split at h
      · simp at h
      rename_i hd
      simp only [Option.some.injEq, Prod.mk.injEq] at h; obtain ⟨rfl, rfl⟩ := h
      exact mixF_cons (loc_no (.inr hg) (by simpa using hd)) hm
    · simp at h
def emptyS : List TrE → Bool
  | [] => true
  | e :: tr => e.S.isEmpty && emptyS tr
theorem emptyS_ok : ∀ {tr : List TrE}, emptyS tr = true → tr.all (fun e => e.S.isEmpty) = true
  | [], _ => rfl
  | e :: tr, h => by
    simp only [emptyS, Bool.and_eq_true] at h
    rw [List.all_cons, h.1, emptyS_ok h.2]; rfl
theorem mixF_nil {tr' : List TrE} {rest : List Nat} (ht : tr.reverse = tr') (h : flOk cl fl tr' = true) (hs : emptyS tr' = true) (hr : spineL l.length fl = rest) (hm : MixP P Q fl cl l keep k tr' E0 E rest [] []) : MixF P Q fl cl l keep k [] E0 E tr := by
  subst ht hr
  exact ⟨[], E, .nil, by simpa using h, by simpa using emptyS_ok hs, by simpa using hm⟩
theorem mixP_det {i : Nat} {g : GOp} {dst : Option Nat} {op : AOp} {R ns : List Nat} {W : List (Nat × Slot)} (hg : l[i]? = some g) (hgo : g = ⟨dst, none, op⟩) (hl : LocO P dst op (D ++ EF) ⟨R, [], W⟩) (hn : W.map (·.1) = ns) (hok : spOk cl fl tr done i R ns = true) (hm : MixP P Q fl cl l keep k tr E0 EF rest (i :: done) (W ++ D)) : MixP P Q fl cl l keep k tr E0 EF (i :: rest) done D := by
  subst hgo hn
  refine SpK.cons (W := fun _ => W) hg rfl (S := []) (fun E' h _ => ?_) (fun _ => rfl) hok (by simp) (fun _ => hm)
  obtain ⟨E1, h1, h2⟩ := hl E' h (fun n hn => by simp at hn)
  exact ⟨fun _ => E1, fun _ => h1, h2⟩
theorem goS {i : Nat} {g : GOp} {dst : Option Nat} {op : AOp} {R ns : List Nat} {W D' : List (Nat × Slot)} {E : Env} (hE : catE D EF = some E) (hg : l[i]? = some g) (hgo : g = ⟨dst, none, op⟩) (h : nextO E dst op = some (R, [], W)) (hn : W.map (·.1) = ns) (hok : spOk cl fl tr done i R ns = true) (hD : catE W D = some D') (hm : MixP P Q fl cl l keep k tr E0 EF rest (i :: done) D') : MixP P Q fl cl l keep k tr E0 EF (i :: rest) done D := by
  rw [catE_eq] at hE hD
  simp only [Option.some.injEq] at hE hD; subst hE hD
  exact mixP_det hg hgo (nextO_ok h) hn hok hm
theorem mixP_nil {E E' : Env} (hE : catE D EF = some E) (he : kp keep E keep = some E') (h : RunQ P Q k E') : MixP P Q fl cl l keep k tr E0 EF [] done D := by
  rw [catE_eq] at hE
  simp only [Option.some.injEq] at hE; subst hE
  refine SpK.nil ?_
  have := kp_eq he
  show RunQ P Q k (keepOnly keep (D ++ EF))
  unfold keepOnly; rw [this]; exact h
theorem envH_names {fr : Nat → Bool} {u : Gh} : ∀ {ns : List Nat} {hs : List HT} {i : Nat}, ns.length = hs.length → (envH fr u ns hs i).map (·.1) = ns
  | [], [], _, _ => rfl
  | [], _ :: _, _, h => by simp at h
  | _ :: _, [], _, h => by simp at h
  | n :: ns, h :: hs, i, hl => by
    simp only [envH, List.map_cons]
    rw [envH_names (by simpa using hl)]
theorem mixP_call {i d : Nat} {g : GOp} {s : (Nat → Value) → Slot} {f : FuncId} {xs : List X} {args : List AV} {res : (Nat → Value) → List RV} {hout : List HT} (ns : List Nat) (hg : l[i]? = some g) (hgo : g = ⟨some d, none, .call f xs⟩) (hOK : CallsH P f [] hout (fun _ => args) res)
    (hns : ns.Nodup) (hnu : ∀ n ∈ ns, get (D ++ EF) n = .undef) (hln : ns.length = hout.length) (hav : argsV (D ++ EF) xs = some args) (hpure : argsPure (D ++ EF) xs = true)
    (hs : ∀ v, resSlot (res v) = some (s v)) (hn : ∀ v, noOwn (res v) = true) (hfr : ∀ v, (res v).all RV.free = true) (hft : ∀ h ∈ hout, freeRows h.es = true) (hd : (get (D ++ EF) d).excl = false) (hdm : d ∉ ns)
    (hok : spOk cl fl tr done i (d :: ns ++ rdL (D ++ EF) (xs.flatMap X.reads)) (d :: ns) = true)
    (hm : ∀ u : Gh, MixP P Q fl cl l keep k tr E0 EF rest (i :: done) (((d, s u.1) :: envH (fun _ => true) u ns hout 0) ++ D)) : MixP P Q fl cl l keep k tr E0 EF (i :: rest) done D := by
  subst hgo
  refine SpK.cons (W := fun u => (d, s u.1) :: envH (fun _ => true) u ns hout 0) hg rfl (S := []) (fun E' h _ => ?_) (fun u => ?_) hok (by simp) hm
  · have hag := agree_of (fun n hn => h n (List.mem_append_right _ hn))
    exact ⟨_, fun u n => rfl, sem_callV ns hOK hns (fun n hn => by rw [h n (by simp [hn])]; exact hnu n hn) hln (by rw [argsV_congr xs hag]; exact hav) (by rw [argsPure_congr xs hag]; exact hpure) (vwA_same _) hs hn hfr hft (by rw [h d (by simp)]; exact hd) hdm⟩
  · simp only [List.map_cons]
    rw [envH_names hln]
theorem mixP_call1 {i d n : Nat} {t : HT} {g : GOp} {s : Value → Slot} {E : Env} {f : FuncId} {xs : List X} {args : List AV} {res : Value → List RV} (hE : catE D EF = some E) (hg : l[i]? = some g) (hgo : g = ⟨some d, none, .call f xs⟩) (hOK : CallsH P f [] [t] (fun _ => args) (fun u => res (u 0)))
    (hnu : get E n = .undef) (hav : argsV E xs = some args) (hpure : argsPure E xs = true)
    (hs : ∀ v, resSlot (res v) = some (s v)) (hn : ∀ v, noOwn (res v) = true) (hfr : ∀ v, (res v).all RV.free = true) (hft : freeRows t.es = true) (hd : (get E d).excl = false) (hdm : d ≠ n)
    (hok : spOk cl fl tr done i (d :: n :: rdL E (xs.flatMap X.reads)) [d, n] = true)
    (hm : ∀ v bs, MixP P Q fl cl l keep k tr E0 EF rest (i :: done) ((d, s v) :: (n, .heap true v bs t.e t.sz t.bys t.es) :: D)) : MixP P Q fl cl l keep k tr E0 EF (i :: rest) done D := by
  rw [catE_eq] at hE
  simp only [Option.some.injEq] at hE; subst hE
  exact mixP_call (s := fun u => s (u 0)) [n] hg hgo hOK (by simp) (by simpa using hnu) rfl hav hpure (fun v => hs (v 0)) (fun v => hn (v 0)) (fun v => hfr (v 0)) (by simpa using hft) hd (by simpa using hdm) hok (fun u => hm (u.1 0) (u.2 0))
theorem lo_idxH {d sz m i : Nat} {x j : X} {ki : IntKind} {fr : Bool} {v : Value} {bs : List Nat} {e bys : Nat} {es : List (List DV)} (hx : vw E x = .v (.val v)) (hg : get E m = .heap fr v bs e sz bys es) (hk : vw E j = .v (.int ki (i : Int))) (h1 : i < es.length) (hd : (get E d).excl = false) :
    LocO P (some d) (.idx sz x j) E ⟨d :: m :: rdL E (x.reads ++ j.reads), [], [(d, .gp m i 0)]⟩ := fun E' h _ => by
  have hag := agree_of (fun n hn => h n (List.mem_cons_of_mem _ (List.mem_cons_of_mem _ hn)))
  refine ⟨(d, .gp m i 0) :: E', fun _ => rfl, ?_⟩
  have := sem_idxH (P := P) (E := E') (d := d) (k := (i : Int)) (by rw [vw_congr (fun n hn => hag n (List.mem_append_left _ hn))]; exact hx) (by rw [h m (by simp)]; exact hg) (by rw [vw_congr (fun n hn => hag n (List.mem_append_right _ hn))]; exact hk) (by omega) (by omega) (okPut_of (by rw [h d (by simp)]; exact hd) _)
  simpa using this
theorem lo_stoHa {m mm i : Nat} {ad x : X} {fr : Bool} {v : Value} {bs : List Nat} {e sz bys : Nat} {es : List (List DV)} {ds : List DV} (ha : vw E ad = .gp m i 0) (hg : get E m = .heap fr v bs e sz bys es) (hx : vw E x = .agg ds) (hmm : mm = ds.length) (hl : (es.getD i []).length = ds.length) (h0 : ∀ d ∈ es.getD i [], d.flat = true) :
    LocO P none (.sto mm ad x) E ⟨m :: rdL E (ad.reads ++ x.reads), [], [(m, .heap fr v bs e sz bys (es.set i ds))]⟩ := fun E' h _ => by
  have hag := agree_of (fun n hn => h n (List.mem_cons_of_mem _ hn))
  exact ⟨_, fun _ => rfl, sem_stoHa (by rw [vw_congr (fun n hn => hag n (List.mem_append_left _ hn))]; exact ha) (by rw [h m (by simp)]; exact hg) (by rw [vw_congr (fun n hn => hag n (List.mem_append_right _ hn))]; exact hx) hmm hl h0⟩
theorem goSs {j m mm i : Nat} {g : GOp} {ad x : X} {fr : Bool} {v : Value} {bs : List Nat} {e sz bys : Nat} {es : List (List DV)} {r ds : List DV} {E : Env} (hi : i < es.length) (hE : catE D EF = some E) (hgg : l[j]? = some g) (hgo : g = ⟨none, none, .sto mm ad x⟩) (ha : vw E ad = .gp m i 0) (hg : get E m = .heap fr v bs e sz bys (es.set i r)) (hx : vw E x = .agg ds) (hmm : mm = ds.length) (hl : r.length = ds.length) (h0 : r.all DV.flat = true)
    (hok : spOk cl fl tr done j (m :: rdL E (ad.reads ++ x.reads)) [m] = true) (hm : MixP P Q fl cl l keep k tr E0 EF rest (j :: done) ((m, .heap fr v bs e sz bys (es.set i ds)) :: D)) : MixP P Q fl cl l keep k tr E0 EF (j :: rest) done D := by
  rw [catE_eq] at hE
  simp only [Option.some.injEq] at hE; subst hE
  have h := lo_stoHa (P := P) ha hg hx hmm (by rw [rowAt_set hi]; exact hl) (by rw [rowAt_set hi]; simpa using h0)
  rw [List.set_set] at h
  exact mixP_det hgg hgo h rfl hok hm
end
end Go.Rd

namespace Go.Rd
open Go.RowKit
section
variable {P : Program} {Q : Env → Prop} {keep : List Nat} {k : List It} {E : Env}
theorem run_openS {m i o e sz bys e2 sz2 bys2 : Nat} {fr : Bool} {v : Value} {bs : List Nat} {es es2 : List (List DV)} {r r' : List DV} (n : Nat) (hi : i < es.length) (hg : get E m = .heap fr v bs e sz bys (es.set i r)) (hd : r[o]? = some (.own e2 sz2 bys2 es2)) (hn : get E n = .undef)
    (hm : ∀ u bs1 bs2, RunQ P Q k ((m, .heap fr v bs1 e sz bys (es.set i (r.set o (.val u)))) :: (n, .heap fr u bs2 e2 sz2 bys2 es2) :: E)) : RunQ P Q k E := by
  refine run_gh (gh_open hg (by rw [rowAt_set hi]; exact hd) hn) (fun u => ?_)
  rw [rowAt_set hi, List.set_set]; exact hm (u.1 0) (u.2 1) (u.2 0)
theorem run_closeS {m i o e sz bys e2 sz2 bys2 : Nat} {fr fr2 : Bool} {v v2 : Value} {bs bs2 : List Nat} {es es2 : List (List DV)} {r r' : List DV} (n : Nat) (hi : i < es.length) (hg : get E m = .heap fr v bs e sz bys (es.set i r)) (hd : r[o]? = some (.val v2)) (hn : get E n = .heap fr2 v2 bs2 e2 sz2 bys2 es2) (hmn : m ≠ n) (hfr : fr = true → fr2 = true)
    (hr : r.set o (.own e2 sz2 bys2 es2) = r') (hm : ∀ bs', RunQ P Q k ((m, .heap fr v bs' e sz bys (es.set i r')) :: drop1 n E)) : RunQ P Q k E := by
  refine run_gh (gh_close hg (by rw [rowAt_set hi]; exact hd) hn hmn hfr) (fun u => ?_)
  rw [rowAt_set hi, List.set_set, hr]; exact hm (u.2 0)
theorem run_closeA {m o e sz bys e2 sz2 bys2 : Nat} {fr fr2 : Bool} {v v2 : Value} {bs bs2 : List Nat} {es es2 : List (List DV)} {r r' : List DV} (n : Nat) (hg : get E m = .heap fr v bs e sz bys (es ++ [r])) (hd : r[o]? = some (.val v2)) (hn : get E n = .heap fr2 v2 bs2 e2 sz2 bys2 es2) (hmn : m ≠ n) (hfr : fr = true → fr2 = true)
    (hr : r.set o (.own e2 sz2 bys2 es2) = r') (hm : ∀ bs', RunQ P Q k ((m, .heap fr v bs' e sz bys (es ++ [r'])) :: drop1 n E)) : RunQ P Q k E := by
  have e1 : (es ++ [r]).getD es.length [] = r := by rw [List.getD_eq_getElem?_getD]; simp
  refine run_gh (gh_close (i := es.length) hg (by rw [e1]; exact hd) hn hmn hfr) (fun u => ?_)
  rw [e1, List.set_append_right _ _ (Nat.le_refl _), Nat.sub_self, List.set_cons_zero, hr]; exact hm (u.2 0)
end
/-! ### What is held by name, kept from then on -/
inductive FrD (hout : List HT) (v : Nat → Value) : DV → DV → Prop
  | same (d : DV) : FrD hout v d d
  | heap {i : Nat} {h : HT} {es : List (List DV)} : hout[i]? = some h → frzRows h.es = es → FrD hout v (.val (v i)) (.sl h.sz es)
inductive FrR (hout : List HT) (v : Nat → Value) : RV → RV → Prop
  | v {d d' : DV} : FrD hout v d d' → FrR hout v (.v d) (.v d')
  | agg {ds ds' : List DV} : All2 (FrD hout v) ds ds' → FrR hout v (.agg ds) (.agg ds')
theorem all2_zip {α β γ : Type} {R : α → β → Prop} {S : α → γ → Prop} {T : β → γ → Prop} (h : ∀ a b c, R a b → S a c → T b c) : ∀ {as : List α} {bs : List β} {cs : List γ}, All2 R as bs → All2 S as cs → All2 T bs cs
  | [], [], [], _, _ => trivial
  | [], _ :: _, _, h, _ => h.elim
  | [], [], _ :: _, _, h => h.elim
  | _ :: _, [], _, h, _ => h.elim
  | _ :: _, _ :: _, [], _, h => h.elim
  | _ :: _, _ :: _, _ :: _, h1, h2 => ⟨h _ _ _ h1.1 h2.1, all2_zip h h1.2 h2.2⟩
theorem callsOK_frz {P : Program} {f : FuncId} {args : List AV} {hout : List HT} {res : (Nat → Value) → List RV} {rs : List RV} (h : CallsH P f [] hout (fun _ => args) res) (hv : ∀ v, All2 (FrR hout v) (res v) rs) : CallsOK P f args rs := by
  intro ok w vs hlt ha
  refine (h ok w vs (fun _ => .bool false, fun _ => []) hlt ha ⟨by simp, by simp⟩).mono ?_
  rintro x w' ⟨r, ok', u', rfl, hb, hext, hr, hall, _, hnew⟩
  have hsz : w.heap.size ≤ w'.heap.size := hb.size
  refine ⟨r, fun b => ok' b ∨ ∃ i, i < hout.length ∧ b ∈ u'.2 i, rfl, ⟨hb.os, hb.tape, hb.output, hb.size, fun k hk => hb.block k hk (by simp)⟩, fun b hb' => ?_, fun b hb' => .inl (hext.up b hb'), fun b hb' => ?_, ?_⟩
  · rcases hb' with hb' | ⟨i, hi, hbi⟩
    · exact hext.lt b hb'
    · exact ((hall.1 i hout[i] (List.getElem?_eq_getElem hi)).2.2 b hbi).2
  · rcases hb' with hb' | ⟨i, hi, hbi⟩
    · exact hext.new b hb'
    · rcases hnew i b hi hbi with h1 | ⟨h1, _⟩
      · exact .inr h1
      · simp at h1
  · have hd : ∀ d d' u, FrD hout u'.1 d d' → Rep ok' w' d u → Rep (fun b => ok' b ∨ ∃ i, i < hout.length ∧ b ∈ u'.2 i) w' d' u := by
      intro d d' u hf hrep
      cases hf with
      | same => exact Rep.mono (fun b hb => ⟨.inl hb, fun _ => rfl⟩) _ _ hrep
      | @heap i q es hq he =>
        simp only [Rep] at hrep
        have h1 := (hall.1 i q hq).1
        have := XRep.frz (ok1 := fun b => ok' b ∨ ∃ i, i < hout.length ∧ b ∈ u'.2 i) (fun b hb => .inl hb) _ _ (u'.2 i) (fun b hb => .inr ⟨i, (List.getElem?_eq_some_iff.1 hq).1, hb⟩) h1
        simp only [DV.frz, he] at this
        rw [hrep.1]; exact this
    have hrv : ∀ r1 r2 u, FrR hout u'.1 r1 r2 → RVOK w.heap.size ok' w' r1 u → RVOK w.heap.size (fun b => ok' b ∨ ∃ i, i < hout.length ∧ b ∈ u'.2 i) w' r2 u := by
      intro r1 r2 u hf hrep
      cases hf with
      | v hf => exact hd _ _ _ hf hrep
      | agg hf =>
        obtain ⟨cs, h1, h2⟩ := hrep
        exact ⟨cs, h1, all2_zip (fun a b c => hd a b c) hf h2⟩
    have hvv := hv u'.1
    generalize res u'.1 = r0 at hr hvv
    match r0, rs, hvv, hr with
    | [], [], _, ⟨vs, h1, h2⟩ =>
      refine ⟨vs, h1, ?_⟩
      cases hvs : vs.toList with
      | nil => trivial
      | cons _ _ => rw [hvs] at h2; exact h2.elim
    | [r1], [r2], hvv, hr => exact hrv _ _ _ hvv.1 hr
    | r1 :: r2 :: rs1, q1 :: q2 :: rs2, hvv, ⟨vs, h1, h2⟩ => exact ⟨vs, h1, all2_zip (fun a b c => hrv a b c) hvv h2⟩
    | [], _ :: _, hvv, _ => exact hvv.elim
    | [_], [], hvv, _ => exact hvv.elim
    | [_], _ :: _ :: _, hvv, _ => exact hvv.2.elim
    | _ :: _ :: _, [], hvv, _ => exact hvv.elim
    | _ :: _ :: _, [_], hvv, _ => exact hvv.2.elim
end Go.Rd

namespace Go.Rd
open Go.RowKit
set_option linter.unusedVariables false
def dvNil : DV → DV
  | .sl _ [] => .val (.slice none 0 0)
  | d => d
section
variable {ok : Nat → Prop} {w : World}
theorem dvEq_nil {d : DV} {v : Value} (h : dvEq d v = true) : Rep ok w (dvNil d) v := by
  unfold dvNil
  split
  · unfold dvEq at h
    split at h <;> simp_all [Rep]
    exact ⟨rfl, rfl⟩
  · exact dvEq_ok h
theorem dvsEq_nil : ∀ {ds : List DV} {vs : List Value}, dvsEq ds vs = true → All2 (Rep ok w) (ds.map dvNil) vs
  | [], [], _ => by simp [All2]
  | d :: ds, v :: vs, h => by
    simp only [dvsEq, Bool.and_eq_true] at h
    exact ⟨dvEq_nil h.1, dvsEq_nil h.2⟩
  | [], _ :: _, h => by simp [dvsEq] at h
  | _ :: _, [], h => by simp [dvsEq] at h
end
section
variable {P : Program} {ok : Nat → Prop} {N : Nat} {B : Bd} {w0 : World} {E : Env} {a : Act} {w : World}
theorem gives_bldN {t : TypeId} {parts : Array (Nat × Operand)} {zero : List DV} {ps : List (Nat × Nat × X)} {ds : List DV} (h : InvO ok N B w0 E a w) (hc : chkBld P t parts.toList zero ps = true)
    (hl : layParts E (zero.map dvNil) ps = some ds) : Gives P ok B E a w (.build t parts) (.agg ds) := by
  unfold chkBld at hc
  split at hc
  case h_2 => exact (Bool.false_ne_true hc).elim
  rename_i it fs hit hu
  simp only [Bool.and_eq_true] at hc
  obtain ⟨⟨hz, hall⟩, hp⟩ := hc
  split at hz
  case h_2 => exact (Bool.false_ne_true hz).elim
  rename_i z hzz
  intro d ty pos af gd
  obtain ⟨places, h1, h2⟩ := mapM_places (P := P) fs.toList (List.all_eq_true.1 hall)
  obtain ⟨cells', h3, h4⟩ := layParts_ok (P := P) h (fs := fs) (places := places) (fun i f hf => by simpa using h2 i f (by simpa using hf)) parts.toList ps (zero.map dvNil) z.cells ds hp (dvsEq_nil hz) hl
  have hb : P.built t (parts.map fun (i, x) => (i, a.eval x)).toList = some cells' := by
    simp only [Program.built, hit, hu, hzz, h1, Array.toList_map]
    exact h3
  refine ⟨.agg cells', ?_, cells', rfl, h4⟩
  simp [execOp, run_build w t _ cells' hb]
theorem chk_bld {o : Op} {zero : List DV} {ps : List (Nat × Nat × X)} (hc : chkOp P o (.bld zero ps) = true) : ∃ t parts, o = .build t parts ∧ chkBld P t parts.toList zero ps = true := by
  cases o <;> try (simp [chkOp, chk] at hc; done)
  case build t parts => exact ⟨t, parts, rfl, hc⟩
  case call c =>
    simp only [chkOp] at hc
    unfold chkCall at hc
    split at hc <;> simp_all
    all_goals (unfold chkB at hc; split at hc <;> simp_all)
theorem lo_bldN {d : Nat} {zero : List DV} {ps : List (Nat × Nat × X)} {ds : List DV} (hl : layParts E (zero.map dvNil) ps = some ds) (hd : (get E d).excl = false) : LocO P (some d) (.bld zero ps) E ⟨d :: rdL E (ps.flatMap fun p => p.2.2.reads), [], [(d, .agg ds)]⟩ := fun E' h1 _ => by
  have hg := agree_of (fun n hn => h1 n (List.mem_cons_of_mem _ hn))
  refine ⟨(d, .agg ds) :: E', fun _ => rfl, sem_gives (okPut_of (by rw [h1 d (by simp)]; exact hd) _) rfl (fun ok N B w0 a w o hI hc => ?_)⟩
  obtain ⟨t, parts, rfl, hc'⟩ := chk_bld hc
  exact gives_bldN hI hc' (by rw [layParts_congr ps _ hg]; exact hl)
end
section
variable {P : Program} {Q : Env → Prop} {cl : List (List Nat)} {l : List GOp} {keep : List Nat} {k : List It} {E E0 : Env} {tr : List TrE}
theorem goBz {d : Nat} {zero : List DV} {ps : List (Nat × Nat × X)} {ds : List DV} {W0 : List (Nat × Slot)} (ms : List Nat) (hf : frzW E ms = some W0) (hE : catE W0 E = some E0) (hl : layParts E0 (zero.map dvNil) ps = some ds) (hd : (get E0 d).excl = false)
    (hm : AnyM P Q cl l keep k ((d, .agg ds) :: E0) (⟨ms ++ (d :: rdL E0 (ps.flatMap fun p => p.2.2.reads)), ms ++ [], (d, .agg ds) :: W0⟩ :: tr)) : AnyM P Q cl (⟨some d, none, .bld zero ps⟩ :: l) keep k E tr := by
  rw [catE_eq] at hE
  simp only [Option.some.injEq] at hE; subst hE
  exact any_cons (loc_none (lo_frzs hf (lo_bldN hl hd))) hm
theorem gh_nil {n : Nat} (e sz bys : Nat) (hn : get E n = .undef) : Ghost E (fun _ => (n, .heap true (.slice none 0 0) [] e sz bys []) :: E) := by
  intro ok N B w0 a w hI
  have h2 := hI.addName (m := n) (s := .heap true (.slice none 0 0) [] e sz bys []) hn (fun a' => ⟨by simp only [XRep]; exact .inl ⟨trivial, trivial, trivial⟩, by simp, by simp⟩) (fun _ => rfl) (fun b hb => by simp [blkP] at hb)
  exact ⟨(fun _ => .bool false, fun _ => []), ok, h2, fun _ h => .inl h⟩
theorem run_nil (n e sz bys : Nat) (hn : get E n = .undef) (h : RunQ P Q k ((n, .heap true (.slice none 0 0) [] e sz bys []) :: E)) : RunQ P Q k E := run_gh (gh_nil e sz bys hn) (fun _ => h)
end
section
variable {P : Program} {Q : Env → Prop} {fl : List Nat} {cl : List (List Nat)} {l gs : List GOp} {keep : List Nat} {k : List It} {E0 E EF : Env} {tr : List TrE} {rest done : List Nat} {D : List (Nat × Slot)}
theorem goSc {i d : Nat} {g : GOp} {s : Slot} {f : FuncId} {xs : List X} {args : List AV} {rs : List RV} {E : Env} (hOK : CallsOK P f args rs) (hE : catE D EF = some E) (hg : l[i]? = some g) (hgo : g = ⟨some d, none, .call f xs⟩) (hav : argsV E xs = some args) (hmode : (argsPure E xs || rs.all scalRV) = true) (hs : resSlot rs = some s) (hd : (get E d).excl = false)
    (hok : spOk cl fl tr done i (d :: rdL E (xs.flatMap X.reads)) [d] = true) (hm : MixP P Q fl cl l keep k tr E0 EF rest (i :: done) ((d, s) :: D)) : MixP P Q fl cl l keep k tr E0 EF (i :: rest) done D := by
  rw [catE_eq] at hE
  simp only [Option.some.injEq] at hE; subst hE
  exact mixP_det hg hgo (lo_call hOK hav hmode hs hd) rfl hok hm
theorem mixP_appH {i d m e sz bys : Nat} {g : GOp} {x y : X} {v : Value} {bs : List Nat} {es es' : List (List DV)} {E : Env} (hE : catE D EF = some E) (hgg : l[i]? = some g) (hgo : g = ⟨some d, none, .app e sz bys x y⟩) (hx : vw E x = .v (.val v)) (hg : get E m = .heap true v bs e sz bys es) (hy : vw E y = .v (.sl sz es')) (hd : (get E d).excl = false) (hdm : d ≠ m)
    (hb1 : (es.length + es'.length) * bys ≤ 140737488355328) (hb2 : es.length + es'.length ≤ 1099511627776) (hnr : (noRefs m D && noRefs m (wx (fun _ => true) tr 0 E0)) = true) (hok : spOk cl fl tr done i (d :: m :: rdL E (x.reads ++ y.reads)) [d, m] = true)
    (hm : ∀ v' bs', MixP P Q fl cl l keep k tr E0 EF rest (i :: done) ((d, .v (.val v')) :: (m, .heap true v' bs' e sz bys (es ++ es')) :: D)) : MixP P Q fl cl l keep k tr E0 EF (i :: rest) done D := by
  rw [catE_eq] at hE
  simp only [Option.some.injEq] at hE; subst hE hgo
  simp only [Bool.and_eq_true] at hnr
  refine SpK.cons (W := fun u => [(d, .v (.val (u.1 0))), (m, .heap true (u.1 0) (u.2 0) e sz bys (es ++ es'))]) (S := [m]) hgg rfl (fun E' h hS => ?_) (fun _ => rfl) hok (by simpa using hnr) (fun u => hm (u.1 0) (u.2 0))
  have hag := agree_of (fun n hn => h n (List.mem_cons_of_mem _ (List.mem_cons_of_mem _ hn)))
  have hnr' := hS m (by simp)
  refine ⟨_, fun u n => ?_, sem_appH (m := m) (by rw [vw_congr (fun n hn => hag n (List.mem_append_left _ hn))]; exact hx) (by rw [h m (by simp)]; exact hg) (by rw [vw_congr (fun n hn => hag n (List.mem_append_right _ hn))]; exact hy) (by rw [h d (by simp)]; exact hd) hdm hb1 hb2⟩
  simp only [get, List.cons_append, List.nil_append]
  split
  · rfl
  · split
    · rfl
    · rename_i h3 h4
      rw [get_drop_eq hnr']; simp only [get]; rw [if_neg h4]
end
end Go.Rd

namespace Go.Rd
open Go.RowKit
set_option linter.unusedVariables false
section
variable {P : Program} {E : Env}
theorem sem_callF {d : Nat} {s : (Nat → Value) → Slot} {f : FuncId} {xs : List X} {args : List AV} {res : (Nat → Value) → List RV} {hout : List HT} (ns : List Nat) (hOK : CallsH P f [] hout (fun _ => args) res)
    (hns : ns.Nodup) (hnu : ∀ n ∈ ns, get E n = .undef) (hln : ns.length = hout.length) (hav : argsV E xs = some args) (hpure : argsPure E xs = true)
    (hs : ∀ v, resSlot (res v) = some (s v)) (hn : ∀ v, noOwn (res v) = true) (hd : (get E d).excl = false) (hdm : d ∉ ns) :
    SemStep P (some d) (.call f xs) E (fun u => (d, s u.1) :: (envH (fun _ => true) u ns hout 0 ++ E)) := by
  intro ok N B w0 a w o hI hdst hdN hc K Q hK
  obtain ⟨c, ho, hcal, hf, hm⟩ := chk_call hc
  unfold callable at hf
  split at hf
  case h_2 => exact (Bool.false_ne_true hf).elim
  rename_i fn hfn
  simp only [Bool.and_eq_true, bne_iff_ne, Option.isSome_iff_exists] at hf
  obtain ⟨hname, body, hbody⟩ := hf
  have hrun : (execOp a.eval o).run P w = .ok (.enter f (c.args.map a.eval)) w := by
    simp [execOp, ho, resolve, hcal, Act.eval, Deferred.ofValue, invoke, callFunc, hfn, hname, hbody]
  unfold Oper.wp
  rw [hrun, Oper.upon_enter]
  have hargs := argsV_pure hI hm hav hpure
  refine (hOK ok w (c.args.map a.eval) (fun _ => .bool false, fun _ => []) hI.okLt (by simpa using hargs) ⟨by simp, by simp⟩).mono ?_
  rintro x w' ⟨r, ok', u', rfl, hb, hext, hr, hall', _, hnew⟩
  refine hK u' ok' _ w' ?_ (fun b hb => (hext.new b hb).imp id (fun h => Nat.le_trans hI.base h))
  have hbelow : Below w.heap.size w w' := ⟨hb.os, hb.tape, hb.output, hb.size, fun k hk => hb.block k hk (by simp)⟩
  have h1 := hI.grow hbelow hext
  have hnewb : ∀ j b, j < hout.length → b ∈ u'.2 j → w.heap.size ≤ b := fun j b hj hbj => (hnew j b hj hbj).elim id (fun h => by simp at h)
  have h2 := h1.addHs (fr := fun _ => true) (u := u') ns hout 0 hns hnu (fun j h hj => by
      have h3 := hall'.1 j h hj
      have hjl : j < hout.length := (List.getElem?_eq_some_iff.1 hj).1
      simp only [Nat.zero_add]
      exact ⟨h3.1, h3.2.1, fun b hbj => ⟨(h3.2.2 b hbj).1, .inl (Nat.le_trans hI.base (hnewb j b hjl hbj)), (h3.2.2 b hbj).2⟩⟩) (fun j k b hj hk h3 h4 => by simp only [Nat.zero_add] at h3 h4; exact hall'.2 j k b hj hk h3 h4) (fun j b hj h3 n hn => by
      simp only [Nat.zero_add] at h3
      have := (blk_lt hI hn).2.1; have := hnewb j b hj h3; omega)
  show InvO ok' N B w0 ((d, s u'.1) :: (envH (fun _ => true) u' ns hout 0 ++ E)) (a.put o.dst r) w'
  rw [hdst]
  have hsp := resSlot_excl (hs u'.1)
  refine h2.put (hdN d rfl) (okPut_of (by rw [envH_not hdm]; exact hd) _) (resSlot_ok (hs u'.1) (hn u'.1) hr a _) (fun b hb => absurd hb (blkP_none hsp))
end
section
variable {P : Program} {Q : Env → Prop} {l : List GOp} {keep : List Nat} {k : List It} {E : Env}
theorem mid_callF1 {d : Nat} {t0 : HT} {s : Value → Slot} {f : FuncId} {xs : List X} {args : List AV} {res : Value → List RV} (n0 : Nat)
    (hOK : CallsH P f [] [t0] (fun _ => args) (fun u => res (u 0))) (hav : argsV E xs = some args) (hpure : argsPure E xs = true)
    (hs : ∀ v0, resSlot (res v0) = some (s v0)) (hn : ∀ v0, noOwn (res v0) = true) (hu : get E n0 = .undef) (hd : (get E d).excl = false) (hdn : d ∉ [n0])
    (hm : ∀ v0 b0, Mid 0 P Q l keep k ((d, s v0) :: (n0, .heap true v0 b0 t0.e t0.sz t0.bys t0.es) :: E)) :
    Mid 0 P Q (⟨some d, none, .call f xs⟩ :: l) keep k E := by
  refine mid_sem (sem_callF (s := fun u => s (u 0)) [n0] hOK (by simp) ?_ rfl hav hpure (fun u => hs (u 0)) (fun u => hn (u 0)) hd hdn) (fun u => hm (u.1 0) (u.2 0))
  simpa [List.forall_mem_cons] using hu
end
end Go.Rd
namespace Go.Rd
open Go.RowKit
section
variable {P : Program} {Q : Env → Prop} {fl : List Nat} {cl : List (List Nat)} {l gs : List GOp} {keep : List Nat} {k : List It} {E0 E : Env} {tr : List TrE}
theorem goFxm {α : Type} {f : α → List DV} {xs : List α} {n : Nat} {d sz : Nat} {x i : X} {ki : IntKind} (hx : vw E x = .v (.sl sz (xs.map f))) (hi : vw E i = .v (.int ki (n : Int))) (hn : n < xs.length) (hd : (get E d).excl = false)
    (hm : MixF P Q fl cl l keep k gs E0 ((d, .row (f xs[n])) :: E) (⟨d :: rdL E (x.reads ++ i.reads), [], [(d, .row (f xs[n]))]⟩ :: tr)) : MixF P Q fl cl l keep k (⟨some d, none, .idx sz x i⟩ :: gs) E0 E tr := by
  refine mixF_cons (loc_none (lo_pure (op := .idx sz x i) ?_ hd)) hm
  have hl : ((n : Int)).toNat < (xs.map f).length := by simpa using hn
  have hz : (0 : Int) ≤ (n : Int) := by omega
  have hg : (xs.map f).getD ((n : Int)).toNat [] = f xs[n] := by rw [Int.toNat_natCast]; exact getD_map f xs hn
  simp only [ev, vInt, hx, hi]
  rw [if_pos ⟨trivial, hz, by omega⟩, hg]
end
end Go.Rd
namespace Go.Rd
open Go.RowKit
section
variable {P : Program} {Q : Env → Prop} {fl : List Nat} {cl : List (List Nat)} {l : List GOp} {keep : List Nat} {k : List It} {E0 EF : Env} {tr : List TrE} {rest done : List Nat} {D : List (Nat × Slot)}
theorem goSi {i d sz m n : Nat} {g : GOp} {x j : X} {ki : IntKind} {fr : Bool} {v : Value} {bs : List Nat} {e bys : Nat} {es : List (List DV)} {E : Env} (hn : n < es.length) (hE : catE D EF = some E) (hgg : l[i]? = some g) (hgo : g = ⟨some d, none, .idx sz x j⟩) (hx : vw E x = .v (.val v)) (hg : get E m = .heap fr v bs e sz bys es) (hk : vw E j = .v (.int ki (n : Int))) (hd : (get E d).excl = false)
    (hok : spOk cl fl tr done i (d :: m :: rdL E (x.reads ++ j.reads)) [d] = true) (hm : MixP P Q fl cl l keep k tr E0 EF rest (i :: done) ((d, .gp m n 0) :: D)) : MixP P Q fl cl l keep k tr E0 EF (i :: rest) done D := by
  rw [catE_eq] at hE
  simp only [Option.some.injEq] at hE; subst hE
  exact mixP_det hgg hgo (lo_idxH hx hg hk hn hd) rfl hok hm
end
end Go.Rd
namespace Go.Rd
open Go.RowKit
section
variable {P : Program} {Q : Env → Prop} {E F : Env}
theorem VwD.mono {d d' : DV} (h : VwD F d d') (hf : ∀ m fr v bs e sz bys es, get F m = .heap fr v bs e sz bys es → get E m = .heap fr v bs e sz bys es) : VwD E d d' := by
  cases h with
  | same => exact .same _
  | heap h1 h2 => exact .heap (hf _ _ _ _ _ _ _ _ h1) h2
theorem all2_mono {α β : Type} {R S : α → β → Prop} (h : ∀ a b, R a b → S a b) : ∀ {as : List α} {bs : List β}, All2 R as bs → All2 S as bs
  | [], [], _ => trivial
  | [], _ :: _, h' => h'.elim
  | _ :: _, [], h' => h'.elim
  | _ :: _, _ :: _, h' => ⟨h _ _ h'.1, all2_mono h h'.2⟩
theorem VwA.mono {a a' : AV} (h : VwA F a a') (hf : ∀ m fr v bs e sz bys es, get F m = .heap fr v bs e sz bys es → get E m = .heap fr v bs e sz bys es) : VwA E a a' := by
  cases h with
  | v h1 => exact .v (h1.mono hf)
  | agg h1 => exact .agg (all2_mono (fun _ _ h => h.mono hf) h1)
  | _ => constructor
def names (E : Env) : List Nat → Env
  | [] => []
  | n :: ns => (n, get E n) :: names E ns
theorem names_get {m : Nat} : ∀ {ns : List Nat}, get (names E ns) m = get E m ∧ m ∈ ns ∨ get (names E ns) m = .undef
  | [] => .inr rfl
  | n :: ns => by
    simp only [names, get]
    split
    · rename_i h; subst h; exact .inl ⟨rfl, by simp⟩
    · rcases names_get (m := m) (ns := ns) with h | h
      · exact .inl ⟨h.1, by simp [h.2]⟩
      · exact .inr h
theorem lo_callVw {d : Nat} {f : FuncId} {xs : List X} {args0 args : List AV} {rs : List RV} {s : Slot} (ns : List Nat) (hOK : CallsOK P f args rs) (hav : argsV E xs = some args0) (hpure : argsPure E xs = true) (hvw : All2 (VwA (names E ns)) args0 args)
    (hs : resSlot rs = some s) (hn : noOwn rs = true) (hfr : rs.all RV.free = true) (hd : (get E d).excl = false) : LocO P (some d) (.call f xs) E ⟨d :: ns ++ rdL E (xs.flatMap X.reads), [], [(d, s)]⟩ := fun E' h1 _ => by
  have hg := agree_of (fun n hn => h1 n (List.mem_append_right _ hn))
  refine ⟨(d, s) :: E', fun _ => rfl, ?_⟩
  refine sem_callV [] (callsH_of_ok hOK) (by simp) (by simp) rfl (by rw [argsV_congr xs hg]; exact hav) (by rw [argsPure_congr xs hg]; exact hpure) (all2_mono (fun _ _ h => h.mono (fun m fr v bs e sz bys es hm => ?_)) hvw) (fun _ => hs) (fun _ => hn) (fun _ => hfr) (by simp) (by rw [h1 d (by simp)]; exact hd) (by simp)
  rcases names_get (E := E) (m := m) (ns := ns) with ⟨h, hmem⟩ | h
  · rw [h1 m (by simp [hmem]), ← h]; exact hm
  · rw [h] at hm; simp at hm
end
section
variable {P : Program} {Q : Env → Prop} {cl : List (List Nat)} {l : List GOp} {keep : List Nat} {k : List It} {E : Env} {tr : List TrE}
theorem goAv {d : Nat} {f : FuncId} {xs : List X} {args0 args : List AV} {rs : List RV} {s : Slot} (ns : List Nat) (hOK : CallsOK P f args rs) (hav : argsV E xs = some args0) (hpure : argsPure E xs = true) (hvw : All2 (VwA (names E ns)) args0 args)
    (hs : resSlot rs = some s) (hn : noOwn rs = true) (hfr : rs.all RV.free = true) (hd : (get E d).excl = false)
    (hm : AnyM P Q cl l keep k ((d, s) :: E) (⟨d :: ns ++ rdL E (xs.flatMap X.reads), [], [(d, s)]⟩ :: tr)) : AnyM P Q cl (⟨some d, none, .call f xs⟩ :: l) keep k E tr := any_cons (loc_none (lo_callVw ns hOK hav hpure hvw hs hn hfr hd)) hm
end
end Go.Rd
