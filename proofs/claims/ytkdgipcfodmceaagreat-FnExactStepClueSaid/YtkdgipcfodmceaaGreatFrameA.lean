import Derived.Below
import Derived.Calls
import Derived.Laws.StructEq
import Derived.Laws.Slices
import Derived.Tactics
import Derived.Great.BuildSlice
import Derived.Laws.OwnMore
import Derived.Laws.AppendOwnNone
import Derived.Laws.BytesArg
import Derived.Orders
/- A framework of contracts: what a run of a function keeps, part 1. No condition. -/
set_option linter.unusedVariables false
set_option linter.unusedSimpArgs false
namespace Go.Rd
open Go.RowKit
inductive DV where
  | bool (b : Bool)
  | int (k : IntKind) (n : Int)
  | str (l : List UInt8)
  | sl (sz : Nat) (es : List (List DV))
  | val (v : Value)
  | own (e sz bys : Nat) (es : List (List DV))
instance : Inhabited DV := ⟨.bool false⟩
def OneV (v : Value) : Prop := v.cells = #[v] ∧ v.oneCell' = true
theorem oneV_sl {v : Value} (h : ∃ a n c, v = .slice a n c) : OneV v := by
  obtain ⟨a, n, c, rfl⟩ := h; exact ⟨rfl, rfl⟩
mutual
def Rep (ok : Nat → Prop) (w : World) : DV → Value → Prop
  | .bool b, v => v = .bool b
  | .int k n, v => v = .int k n
  | .str l, v => v = .string ⟨⟨l⟩⟩
  | .sl sz es, v => ∃ a cap, v = .slice a es.length cap ∧ es.length ≤ cap ∧ (es = [] ∨ ∃ b o, a = some ⟨b, o, none⟩ ∧ ok b ∧ RepRows ok w sz b es o)
  | .val u, v => v = u ∧ OneV v
  | .own .., _ => False
def RepRow (ok : Nat → Prop) (w : World) (b : Nat) : List DV → Nat → Prop
  | [], _ => True
  | d :: ds, o => (∃ v, w.cell? ⟨b, o, none⟩ = some v ∧ Rep ok w d v) ∧ RepRow ok w b ds (o + 1)
def RepRows (ok : Nat → Prop) (w : World) (sz b : Nat) : List (List DV) → Nat → Prop
  | [], _ => True
  | r :: rs, o => r.length = sz ∧ RepRow ok w b r o ∧ RepRows ok w sz b rs (o + sz)
end
def Keeps (ok ok' : Nat → Prop) (w w' : World) : Prop := ∀ b, ok b → ok' b ∧ ∀ o, w'.cell? ⟨b, o, none⟩ = w.cell? ⟨b, o, none⟩
mutual
theorem Rep.mono {ok ok' : Nat → Prop} {w w' : World} (h : Keeps ok ok' w w') :
    ∀ (d : DV) (v : Value), Rep ok w d v → Rep ok' w' d v
  | .bool _, _, hr => by simpa [Rep] using hr
  | .int _ _, _, hr => by simpa [Rep] using hr
  | .str _, _, hr => by simpa [Rep] using hr
  | .sl sz es, v, hr => by
    simp only [Rep] at hr ⊢
    obtain ⟨a, cap, hv, hc, hr⟩ := hr
    refine ⟨a, cap, hv, hc, hr.imp_right ?_⟩
    rintro ⟨b, o, ha, hb, hr⟩
    exact ⟨b, o, ha, (h b hb).1, RepRows.mono h b hb es o hr⟩
  | .val _, _, hr => by simp only [Rep] at hr ⊢; exact hr
  | .own .., _, hr => by simp [Rep] at hr
theorem RepRow.mono {ok ok' : Nat → Prop} {w w' : World} (h : Keeps ok ok' w w') (b : Nat) (hb : ok b) :
    ∀ (ds : List DV) (o : Nat), RepRow ok w b ds o → RepRow ok' w' b ds o
  | [], _, _ => by simp [RepRow]
  | d :: ds, o, hr => by
    simp only [RepRow] at hr ⊢
    obtain ⟨⟨v, hc, hv⟩, hr⟩ := hr
    exact ⟨⟨v, by rw [(h b hb).2]; exact hc, Rep.mono h d v hv⟩, RepRow.mono h b hb ds (o + 1) hr⟩
theorem RepRows.mono {ok ok' : Nat → Prop} {w w' : World} (h : Keeps ok ok' w w') {sz : Nat} (b : Nat) (hb : ok b) :
    ∀ (es : List (List DV)) (o : Nat), RepRows ok w sz b es o → RepRows ok' w' sz b es o
  | [], _, _ => by simp [RepRows]
  | r :: rs, o, hr => by
    simp only [RepRows] at hr ⊢
    obtain ⟨hl, hr, hrs⟩ := hr
    exact ⟨hl, RepRow.mono h b hb r o hr, RepRows.mono h b hb rs (o + sz) hrs⟩
end
def All2 {α β : Type} (R : α → β → Prop) : List α → List β → Prop
  | [], [] => True
  | a :: as, b :: bs => R a b ∧ All2 R as bs
  | _, _ => False
inductive RV where
  | v (d : DV)
  | agg (ds : List DV)
  | own (e sz bys : Nat) (es : List (List DV))
inductive AV where
  | v (d : DV)
  | agg (ds : List DV)
  | row (ds : List DV)
  | clo (f : FuncId) (caps : List (List DV))
def ownBlk : Value → Option Nat
  | .slice (some a) _ _ => some a.block
  | _ => none
def OwnRep (B : Nat) (ok : Nat → Prop) (w : World) (e sz : Nat) (es : List (List DV)) (v : Value) : Prop :=
  (∀ r ∈ es, r.length = sz) ∧ ∃ xs, w.ownsRow B e sz v es.length xs ∧ All2 (Rep ok w) es.flatten xs ∧ ∀ b, ownBlk v = some b → ¬ ok b
def AggRep (ok : Nat → Prop) (w : World) (ds : List DV) (v : Value) : Prop := ∃ cs : Array Value, v = .agg cs ∧ All2 (Rep ok w) ds cs.toList
def CapsOK (ok : Nat → Prop) (w : World) (caps : List (List DV)) (vs : List Value) : Prop :=
  All2 (fun ds v => ∃ b o, v = .pointer (some ⟨b, o, none⟩) ∧ ok b ∧ RepRow ok w b ds o) caps vs
def CloOK (ok : Nat → Prop) (w : World) (f : FuncId) (caps : List (List DV)) (v : Value) : Prop := ∃ cs : Array Value, v = .func (.func f) #[] cs ∧ CapsOK ok w caps cs.toList
def ArgOK (ok : Nat → Prop) (w : World) : AV → Value → Prop
  | .v d, v => Rep ok w d v
  | .agg ds, v => AggRep ok w ds v
  | .row ds, v => ∃ b o, v = .pointer (some ⟨b, o, none⟩) ∧ ok b ∧ RepRow ok w b ds o
  | .clo f caps, v => CloOK ok w f caps v
def RVOK (B : Nat) (ok : Nat → Prop) (w : World) : RV → Value → Prop
  | .v d, v => Rep ok w d v
  | .agg ds, v => AggRep ok w ds v
  | .own e sz _ es, v => OwnRep B ok w e sz es v
def ResOK (B : Nat) (ok : Nat → Prop) (w : World) : List RV → Value → Prop
  | [r], v => RVOK B ok w r v
  | rs, v => ∃ vs : Array Value, v = .tuple vs ∧ All2 (RVOK B ok w) rs vs.toList
def CallsOK (P : Program) (f : FuncId) (args : List AV) (res : List RV) : Prop :=
  ∀ (ok : Nat → Prop) (w : World) (vs : Array Value), (∀ b, ok b → b < w.heap.size) → All2 (ArgOK ok w) args vs.toList →
    Calls P f vs w fun e w' => ∃ v ok', e = .returned v ∧ Below w.heap.size w w' ∧ (∀ b, ok' b → b < w'.heap.size) ∧
      (∀ b, ok b → ok' b) ∧ (∀ b, ok' b → ok b ∨ w.heap.size ≤ b) ∧ ResOK w.heap.size ok' w' res v
mutual
def XRep (ok : Nat → Prop) (w : World) : DV → Value → List Nat → Prop
  | .own e sz _ rows, v, bs => (v = .slice none 0 0 ∧ rows = [] ∧ bs = []) ∨ ∃ g cap cur fs, v = .slice (some ⟨g, 0, none⟩) rows.length cap ∧ w.heap[g]? = some (.cells cur e (0, 0)) ∧ rows.length ≤ cap ∧ cap ≤ maxLen ∧ cur.size = cap * sz ∧
      bs = g :: fs ∧ XRows ok w sz rows cur.toList fs
  | .bool b, v, bs => bs = [] ∧ v = .bool b
  | .int k n, v, bs => bs = [] ∧ v = .int k n
  | .str l, v, bs => bs = [] ∧ v = .string ⟨⟨l⟩⟩
  | .sl sz es, v, bs => bs = [] ∧ Rep ok w (.sl sz es) v
  | .val u, v, bs => bs = [] ∧ v = u ∧ OneV v
def XRow (ok : Nat → Prop) (w : World) : List DV → List Value → List Nat → Prop
  | [], _, fs => fs = []
  | d :: ds, xs, fs => ∃ x ys f1 f2, xs = x :: ys ∧ fs = f1 ++ f2 ∧ XRep ok w d x f1 ∧ XRow ok w ds ys f2
def XRows (ok : Nat → Prop) (w : World) (sz : Nat) : List (List DV) → List Value → List Nat → Prop
  | [], _, fs => fs = []
  | r :: rs, xs, fs => ∃ f1 f2, r.length = sz ∧ fs = f1 ++ f2 ∧ XRow ok w r xs f1 ∧ XRows ok w sz rs (xs.drop sz) f2
end
mutual
theorem XRep.mono {ok ok' : Nat → Prop} {w w' : World} (h : Keeps ok ok' w w') :
    ∀ (d : DV) (v : Value) (bs : List Nat), (∀ b ∈ bs, w'.heap[b]? = w.heap[b]?) → XRep ok w d v bs → XRep ok' w' d v bs
  | .bool _, _, _, _, hr => by simpa [XRep] using hr
  | .int _ _, _, _, _, hr => by simpa [XRep] using hr
  | .str _, _, _, _, hr => by simpa [XRep] using hr
  | .val _, _, _, _, hr => by simp only [XRep] at hr ⊢; exact hr
  | .sl sz es, v, bs, _, hr => by
    simp only [XRep] at hr ⊢
    exact ⟨hr.1, Rep.mono h _ _ hr.2⟩
  | .own e sz _ rows, v, bs, hk, hr => by
    simp only [XRep] at hr ⊢
    refine hr.imp_right ?_
    rintro ⟨g, cap, cur, fs, h1, h2, h3, h4, h5, h6, h7⟩
    subst h6
    exact ⟨g, cap, cur, fs, h1, by rw [hk g (by simp)]; exact h2, h3, h4, h5, rfl, XRows.mono h rows _ fs (fun b hb => hk b (by simp [hb])) h7⟩
theorem XRow.mono {ok ok' : Nat → Prop} {w w' : World} (h : Keeps ok ok' w w') :
    ∀ (ds : List DV) (xs : List Value) (fs : List Nat), (∀ b ∈ fs, w'.heap[b]? = w.heap[b]?) → XRow ok w ds xs fs → XRow ok' w' ds xs fs
  | [], _, _, _, hr => by simpa [XRow] using hr
  | d :: ds, xs, fs, hk, hr => by
    simp only [XRow] at hr ⊢
    obtain ⟨x, ys, f1, f2, h1, h2, h3, h4⟩ := hr
    subst h2
    exact ⟨x, ys, f1, f2, h1, rfl, XRep.mono h d x f1 (fun b hb => hk b (by simp [hb])) h3, XRow.mono h ds ys f2 (fun b hb => hk b (by simp [hb])) h4⟩
theorem XRows.mono {ok ok' : Nat → Prop} {w w' : World} (h : Keeps ok ok' w w') {sz : Nat} :
    ∀ (rs : List (List DV)) (xs : List Value) (fs : List Nat), (∀ b ∈ fs, w'.heap[b]? = w.heap[b]?) → XRows ok w sz rs xs fs → XRows ok' w' sz rs xs fs
  | [], _, _, _, hr => by simpa [XRows] using hr
  | r :: rs, xs, fs, hk, hr => by
    simp only [XRows] at hr ⊢
    obtain ⟨f1, f2, h0, h2, h3, h4⟩ := hr
    subst h2
    exact ⟨f1, f2, h0, rfl, XRow.mono h r xs f1 (fun b hb => hk b (by simp [hb])) h3, XRows.mono h rs _ f2 (fun b hb => hk b (by simp [hb])) h4⟩
end
structure Bd where
  n : Nat
  L : Nat → Prop
def Bd.has (B : Bd) (b : Nat) : Prop := B.n ≤ b ∨ B.L b
inductive Slot where
  | undef
  | v (d : DV)
  | agg (ds : List DV)
  | tup (rs : List RV)
  | own (e sz bys : Nat) (es : List (List DV))
  | box (ds : List DV)
  | al (n : Nat)
  | ref (n o : Nat)
  | oel (n : Nat) (i : Nat) (o : Nat)
  | row (ds : List DV)
  | clo (f : FuncId) (caps : List (List DV))
  | ub (pt pf : Prop)
  | skp
  | heap (fr : Bool) (v : Value) (bs : List Nat) (e sz bys : Nat) (es : List (List DV))
  | gp (m i o : Nat)
  | hold (b : Nat) (o : Obj)
  deriving Inhabited
abbrev Env := List (Nat × Slot)
def get : Env → Nat → Slot
  | [], _ => .undef
  | (m, s) :: E, n => if m = n then s else get E n
def Slot.excl : Slot → Bool
  | .own .. | .box .. | .heap .. | .hold .. => true
  | _ => false
def Slot.points (d : Nat) : Slot → Bool
  | .al n | .ref n _ | .oel n _ _ | .gp n _ _ => n == d
  | _ => false
def noRefs (d : Nat) : Env → Bool
  | [] => true
  | (_, s) :: E => !s.points d && noRefs d E
inductive X where
  | t (n : Nat)
  | c (d : DV)
  | nil (sz : Nat)
  | fn (f : FuncId)
def vw (E : Env) : X → Slot
  | .t n => match get E n with
    | .own .. => .al n
    | .box _ => .ref n 0
    | .heap .. => .undef
    | .hold .. => .undef
    | s => s
  | .c d => .v d
  | .nil sz => .v (.sl sz [])
  | .fn f => .clo f []
end Go.Rd

namespace Go.Rd
open Go.RowKit
theorem All2.mono {α β : Type} {R S : α → β → Prop} (h : ∀ a b, R a b → S a b) : ∀ (as : List α) (bs : List β), All2 R as bs → All2 S as bs
  | [], [], _ => trivial
  | _ :: as, _ :: bs, ⟨h1, h2⟩ => ⟨h _ _ h1, All2.mono h as bs h2⟩
  | [], _ :: _, hh => hh.elim
  | _ :: _, [], hh => hh.elim
theorem All2.length {α β : Type} {R : α → β → Prop} : ∀ (as : List α) (bs : List β), All2 R as bs → as.length = bs.length
  | [], [], _ => rfl
  | _ :: as, _ :: bs, ⟨_, h2⟩ => by simp [All2.length as bs h2]
  | [], _ :: _, hh => hh.elim
  | _ :: _, [], hh => hh.elim
theorem All2.get {α β : Type} {R : α → β → Prop} : ∀ (as : List α) (bs : List β), All2 R as bs → ∀ (i : Nat) (a : α), as[i]? = some a → ∃ b, bs[i]? = some b ∧ R a b
  | [], [], _, i, a, h => by simp at h
  | x :: as, y :: bs, ⟨h1, h2⟩, 0, a, h => by simp at h; subst h; exact ⟨y, by simp, h1⟩
  | x :: as, y :: bs, ⟨h1, h2⟩, i + 1, a, h => by
    simp at h
    obtain ⟨b, hb, hr⟩ := All2.get as bs h2 i a h
    exact ⟨b, by simpa using hb, hr⟩
  | [], _ :: _, hh, _, _, _ => hh.elim
  | _ :: _, [], hh, _, _, _ => hh.elim
theorem All2.append {α β : Type} {R : α → β → Prop} : ∀ (as : List α) (bs : List β) (cs : List α) (ds : List β), All2 R as bs → All2 R cs ds → All2 R (as ++ cs) (bs ++ ds)
  | [], [], _, _, _, h => h
  | _ :: as, _ :: bs, cs, ds, ⟨h1, h2⟩, h => ⟨h1, All2.append as bs cs ds h2 h⟩
  | [], _ :: _, _, _, hh, _ => hh.elim
  | _ :: _, [], _, _, hh, _ => hh.elim
theorem All2.take {α β : Type} {R : α → β → Prop} : ∀ (n : Nat) (as : List α) (bs : List β), All2 R as bs → All2 R (as.take n) (bs.take n)
  | 0, _, _, _ => by simp [All2]
  | n + 1, [], [], _ => by simp [All2]
  | n + 1, _ :: as, _ :: bs, ⟨h1, h2⟩ => ⟨h1, All2.take n as bs h2⟩
  | _ + 1, [], _ :: _, hh => hh.elim
  | _ + 1, _ :: _, [], hh => hh.elim
theorem All2.drop {α β : Type} {R : α → β → Prop} : ∀ (n : Nat) (as : List α) (bs : List β), All2 R as bs → All2 R (as.drop n) (bs.drop n)
  | 0, _, _, h => by simpa using h
  | n + 1, [], [], _ => by simp [All2]
  | n + 1, _ :: as, _ :: bs, ⟨_, h2⟩ => by simpa using All2.drop n as bs h2
  | _ + 1, [], _ :: _, hh => hh.elim
  | _ + 1, _ :: _, [], hh => hh.elim
def bitsD (op : BinOp) (k : IntKind) (x y : Int) : Int :=
  let a := BitVec.ofInt k.bits x
  let b := BitVec.ofInt k.bits y
  match op with
  | .and => k.wrap (a &&& b).toNat
  | .or => k.wrap (a ||| b).toNat
  | .xor => k.wrap (a ^^^ b).toNat
  | _ => k.wrap (a &&& ~~~b).toNat
def intD (op : BinOp) (k : IntKind) (a b : Int) : Option DV :=
  match op with
  | .add => some (.int k (k.wrap (a + b)))
  | .sub => some (.int k (k.wrap (a - b)))
  | .mul => some (.int k (k.wrap (a * b)))
  | .quo => if b = 0 then none else some (.int k (k.wrap (a.tdiv b)))
  | .rem => if b = 0 then none else some (.int k (a.tmod b))
  | .and => some (.int k (bitsD .and k a b))
  | .or => some (.int k (bitsD .or k a b))
  | .xor => some (.int k (bitsD .xor k a b))
  | .eql => some (.bool (a == b))
  | .neq => some (.bool (a != b))
  | .lss => some (.bool (decide (a < b)))
  | .leq => some (.bool (decide (a ≤ b)))
  | .gtr => some (.bool (decide (b < a)))
  | .geq => some (.bool (decide (b ≤ a)))
  | _ => none
def strD (op : BinOp) (x y : List UInt8) : Option DV :=
  match op with
  | .add => if x.length + y.length ≤ 9223372036854775807 then some (.str (x ++ y)) else none
  | .eql => some (.bool (x == y))
  | .neq => some (.bool (!(x == y)))
  | .lss => some (.bool (Op.bytesLess x y))
  | .leq => some (.bool (Op.bytesLess x y || x == y))
  | .gtr => some (.bool (!(Op.bytesLess x y || x == y)))
  | .geq => some (.bool (!Op.bytesLess x y))
  | _ => none
def binD (op : BinOp) : DV → DV → Option DV
  | .int k a, .int k' b => if k = k' then intD op k a b else none
  | .str x, .str y => strD op x y
  | _, _ => none
inductive FK where
  | int | str | bool
  deriving DecidableEq
def eqCells : List FK → List DV → List DV → Option Bool
  | [], [], [] => some true
  | .int :: ks, .int k a :: x, .int k' b :: y => if k = k' then (eqCells ks x y).map fun r => a == b && r else none
  | .str :: ks, .str a :: x, .str b :: y => (eqCells ks x y).map fun r => a == b && r
  | .bool :: ks, .bool a :: x, .bool b :: y => (eqCells ks x y).map fun r => a == b && r
  | _, _, _ => none
inductive AOp where
  | mv (x : X)
  | pick (c a b : X)
  | fld (x : X) (off : Nat)
  | idx (sz : Nat) (x i : X)
  | ld (x : X)
  | lda (n : Nat) (x : X)
  | bin (op : BinOp) (x y : X)
  | eqb (neg : Bool) (x y : X)
  | eqa (ks : List FK) (neg : Bool) (x y : X)
  | not (x : X)
  | len (x : X)
  | slen (x : X)
  | sidx (x i : X)
  | ssub (x : X) (lo hi : Option X)
  | ssl (sz : Nat) (x : X) (lo hi : Option X)
  | ext (x : X) (i : Nat)
  | bld (zero : List DV) (parts : List (Nat × Nat × X))
  | bsl (sz : Nat) (rows : List X)
  | cvi (k : IntKind) (x : X)
  | isn (neg : Bool) (x : X)
  | b2s (x : X)
  | mnx (mx : Bool) (x y : X)
  -- those that do more
  | alc (ds : List DV)
  | box (x : X)
  | mks (e sz bys : Nat) (zero : List DV) (n : X)
  | nilo (e sz bys : Nat)
  | bslo (e sz bys : Nat) (rows : List X)
  | asg (take : Bool) (x : X)
  | sto (n : Nat) (a x : X)
  | app (e sz bys : Nat) (x y : X)
  | call (f : FuncId) (xs : List X)
  | callo (f : FuncId) (xs : List X)
  | callv (x : X) (xs : List X)
  | mkf (f : FuncId) (xs : List X)
  | mkm (t : TypeId)
  | mpu (t : TypeId) (m k v : X)
  | mpl (t : TypeId) (m k : X)
  | s2b (e : TypeId) (x : X)
  deriving Inhabited
structure GOp where
  dst : Option Nat
  guard : Option (Nat × Bool)
  op : AOp
  deriving Inhabited
def layParts (E : Env) : List DV → List (Nat × Nat × X) → Option (List DV)
  | cs, [] => some cs
  | cs, (off, sz, x) :: ps =>
    match vw E x with
    | .v d => if sz = 1 ∧ off < cs.length then layParts E (cs.set off d) ps else none
    | .agg ds => if ds.length = sz ∧ off + sz ≤ cs.length then layParts E (cs.take off ++ ds ++ cs.drop (off + sz)) ps else none
    | _ => none
def layRows (E : Env) (sz : Nat) : List X → Option (List (List DV))
  | [] => some []
  | x :: xs =>
    match vw E x with
    | .v d => if sz = 1 then (layRows E sz xs).map ([d] :: ·) else none
    | .agg ds => if ds.length = sz then (layRows E sz xs).map (ds :: ·) else none
    | _ => none
def vInt (E : Env) (x : X) : Option Int := match vw E x with | .v (.int _ n) => some n | _ => none
def vBool (E : Env) (x : X) : Option Bool := match vw E x with | .v (.bool b) => some b | _ => none
def vStr (E : Env) (x : X) : Option (List UInt8) := match vw E x with | .v (.str s) => some s | _ => none
def vEls (E : Env) (x : X) : Option (List (List DV)) := match vw E x with
  | .v (.sl _ es) => some es
  | .al n => match get E n with | .own _ _ _ es => some es | _ => none
  | _ => none
def bnd (E : Env) (x : Option X) (dflt : Nat) : Option Int := match x with
  | none => some dflt
  | some x => vInt E x
def bytesOf : List (List DV) → Option (List UInt8)
  | [] => some []
  | [.int .u8 n] :: es => (bytesOf es).map fun l => UInt8.ofNat n.toNat :: l
  | _ => none
def ev (E : Env) : AOp → Option Slot
  | .mv x => some (vw E x)
  | .pick c a b => match vBool E c with
    | some true => some (vw E a)
    | some false => some (vw E b)
    | none => none
  | .fld x off => match vw E x with
    | .ref n o => some (.ref n (o + off))
    | .oel n i o => some (.oel n i (o + off))
    | .row ds => some (.row (ds.drop off))
    | _ => none
  | .idx sz x i => match vInt E i with
    | none => none
    | some k => match vw E x with
      | .v (.sl sz' es) => if sz' = sz ∧ 0 ≤ k ∧ k < es.length then some (.row (es.getD k.toNat [])) else none
      | .al n => match get E n with
        | .own _ sz' _ es => if sz' = sz ∧ 0 ≤ k ∧ k < es.length then some (.oel n k.toNat 0) else none
        | _ => none
      | _ => none
  | .ld x => match vw E x with
    | .ref n o => match get E n with
      | .box ds => (ds[o]?).map .v
      | _ => none
    | .oel n i o => match get E n with
      | .own _ sz _ es => if o < sz then ((es.getD i [])[o]?).map .v else none
      | _ => none
    | .row (d :: _) => some (.v d)
    | _ => none
  | .lda m x => match vw E x with
    | .ref n o => match get E n with
      | .box ds => if o + m ≤ ds.length then some (.agg ((ds.drop o).take m)) else none
      | _ => none
    | .oel n i o => match get E n with
      | .own _ sz _ es => if o + m ≤ sz then some (.agg (((es.getD i []).drop o).take m)) else none
      | _ => none
    | .row ds => if m ≤ ds.length then some (.agg (ds.take m)) else none
    | _ => none
  | .bin op x y => match vw E x, vw E y with
    | .v d, .v d' => (binD op d d').map .v
    | _, _ => none
  | .eqb neg x y => match vBool E x, vBool E y with
    | some b, some b' => some (.v (.bool (if neg then !(b == b') else b == b')))
    | _, _ => none
  | .eqa ks neg x y => match vw E x, vw E y with
    | .agg ds, .agg ds' => (eqCells ks ds ds').map fun b => .v (.bool (if neg then !b else b))
    | _, _ => none
  | .not x => (vBool E x).map fun b => .v (.bool (!b))
  | .slen x => (vStr E x).map fun s => .v (.int .i64 s.length)
  | .len x => (vEls E x).map fun es => .v (.int .i64 es.length)
  | .sidx x i => match vStr E x, vInt E i with
    | some s, some k => if 0 ≤ k ∧ k < s.length then some (.v (.int .u8 (s.getD k.toNat 0).toNat)) else none
    | _, _ => none
  | .ssub x lo hi => match vStr E x with
    | none => none
    | some s => match bnd E lo 0, bnd E hi s.length with
      | some l, some h => if 0 ≤ l ∧ l ≤ h ∧ h ≤ s.length then some (.v (.str ((s.take h.toNat).drop l.toNat))) else none
      | _, _ => none
  | .ssl sz x lo hi => match vw E x with
    | .v (.sl sz' es) => match bnd E lo 0, bnd E hi es.length with
      | some l, some h => if sz' = sz ∧ 0 ≤ l ∧ l ≤ h ∧ h ≤ es.length then some (.v (.sl sz ((es.take h.toNat).drop l.toNat))) else none
      | _, _ => none
    | _ => none
  | .ext x i => match vw E x with
    | .tup rs => match rs[i]? with
      | some (.v d) => some (.v d)
      | some (.agg ds) => some (.agg ds)
      | _ => none
    | _ => none
  | .bld zero parts => (layParts E zero parts).map .agg
  | .bsl sz rows => (layRows E sz rows).map fun es => .v (.sl sz es)
  | .cvi k x => (vInt E x).map fun n => .v (.int k (k.wrap n))
  | .isn neg x => (vEls E x).map fun es => if neg then .ub True (es = []) else .ub (es = []) True
  | .mnx b x y => match vw E x, vw E y with
    | .v (.int k i), .v (.int _ j) => some (.v (.int k (if b then (if j > i then j else i) else (if j < i then j else i))))
    | _, _ => none
  | .b2s x => match vEls E x with
    | some es => (bytesOf es).map fun l => .v (.str l)
    | none => none
  | _ => none
end Go.Rd

namespace Go.Rd
open Go.RowKit
theorem rep_cells {ok : Nat → Prop} {w : World} {d : DV} {v : Value} (h : Rep ok w d v) : v.cells = #[v] := by
  cases d <;> simp only [Rep] at h
  · rw [h]; rfl
  · rw [h]; rfl
  · rw [h]; rfl
  · obtain ⟨ad, cap, h, _⟩ := h; rw [h]; rfl
  · exact h.2.1
def tm (a : Act) (n : Nat) : Value := a.tmps.getD n undef
def RVOK' (ok : Nat → Prop) (w : World) : RV → Value → Prop
  | .v d, v => Rep ok w d v
  | .agg ds, v => AggRep ok w ds v
  | .own .., _ => False
def SlotOK (B : Bd) (ok : Nat → Prop) (w : World) (a : Act) (E : Env) : Slot → Value → Prop
  | .undef, _ => True
  | .v d, v => Rep ok w d v
  | .agg ds, v => AggRep ok w ds v
  | .tup rs, v => ∃ vs : Array Value, v = .tuple vs ∧ All2 (RVOK' ok w) rs vs.toList
  | .own e sz _ es, v => OwnRep B.n ok w e sz es v
  | .box ds, v => ∃ b cs t, v = .pointer (some ⟨b, 0, none⟩) ∧ B.n ≤ b ∧ ¬ ok b ∧ w.heap[b]? = some (.cells cs t (0, 0)) ∧ All2 (Rep ok w) ds cs.toList
  | .al n, v => v = tm a n ∧ ∃ e sz bys es, get E n = .own e sz bys es
  | .ref n o, v => ∃ b ds, tm a n = .pointer (some ⟨b, 0, none⟩) ∧ v = .pointer (some ⟨b, o, none⟩) ∧ get E n = .box ds
  | .oel n i o, v => ∃ b len cap e sz bys es, tm a n = .slice (some ⟨b, 0, none⟩) len cap ∧ v = .pointer (some ⟨b, i * sz + o, none⟩) ∧ get E n = .own e sz bys es ∧ i < es.length
  | .row ds, v => ∃ b o, v = .pointer (some ⟨b, o, none⟩) ∧ ok b ∧ RepRow ok w b ds o
  | .clo f caps, v => CloOK ok w f caps v
  | .ub pt pf, v => ∃ b, v = .bool b ∧ (b = true → pt) ∧ (b = false → pf)
  | .skp, v => v = Go.undef
  | .heap fr v0 bs e sz bys es, _ => XRep ok w (.own e sz bys es) v0 bs ∧ bs.Nodup ∧ ∀ b ∈ bs, ¬ ok b ∧ (B.n ≤ b ∨ (fr = false ∧ B.L b)) ∧ b < w.heap.size
  | .hold b o, _ => w.heap[b]? = some o ∧ ¬ ok b ∧ B.has b
  | .gp m i o, v => ∃ b len cap fr v0 bs e sz bys es, get E m = .heap fr v0 bs e sz bys es ∧ v0 = .slice (some ⟨b, 0, none⟩) len cap ∧ v = .pointer (some ⟨b, i * sz + o, none⟩) ∧ i < es.length
def blkP : Slot → Value → Nat → Prop
  | .box _, .pointer (some ad), b => ad.block = b
  | .own .., v, b => ownBlk v = some b
  | .heap _ _ bs .., _, b => b ∈ bs
  | .hold c _, _, b => c = b
  | _, _, _ => False
structure BelowL (B : Bd) (w w' : World) : Prop where
  os : w'.os = w.os
  tape : w'.tape = w.tape
  output : w'.output = w.output
  size : w.heap.size ≤ w'.heap.size
  block : ∀ k, k < B.n → ¬ B.L k → w'.heap[k]? = w.heap[k]?
theorem BelowL.of {B : Bd} {w w' : World} (h : Below B.n w w') : BelowL B w w' := ⟨h.os, h.tape, h.output, h.size, fun k hk _ => h.block k hk⟩
theorem BelowL.refl (B : Bd) (w : World) : BelowL B w w := ⟨rfl, rfl, rfl, Nat.le_refl _, fun _ _ _ => rfl⟩
theorem BelowL.trans {B : Bd} {a b c : World} (h : BelowL B a b) (k : BelowL B b c) : BelowL B a c :=
  ⟨k.os.trans h.os, k.tape.trans h.tape, k.output.trans h.output, Nat.le_trans h.size k.size, fun i hi hl => (k.block i hi hl).trans (h.block i hi hl)⟩
structure InvO (ok : Nat → Prop) (N : Nat) (B : Bd) (w0 : World) (E : Env) (a : Act) (w : World) : Prop where
  size : a.tmps.size = N
  defers : a.defers = []
  below : BelowL B w0 w
  base : B.n ≤ w.heap.size
  okLt : ∀ b, ok b → b < w.heap.size
  slot : ∀ n, SlotOK B ok w a E (get E n) (tm a n)
  apart : ∀ n m b, blkP (get E n) (tm a n) b → blkP (get E m) (tm a m) b → n = m
structure OkExt (ok ok' : Nat → Prop) (w w' : World) : Prop where
  up : ∀ b, ok b → ok' b
  new : ∀ b, ok' b → ok b ∨ w.heap.size ≤ b
  lt : ∀ b, ok' b → b < w'.heap.size
theorem OkExt.refl {ok : Nat → Prop} {w : World} (h : ∀ b, ok b → b < w.heap.size) : OkExt ok ok w w := ⟨fun _ h => h, fun _ h => .inl h, h⟩
theorem Keeps.of {ok ok' : Nat → Prop} {w w' : World} (hlt : ∀ b, ok b → b < w.heap.size) (hb : Below w.heap.size w w') (hx : OkExt ok ok' w w') : Keeps ok ok' w w' :=
  fun b h => ⟨hx.up b h, fun _ => hb.cell (p := ⟨b, _, none⟩) (hlt b h)⟩
theorem AggRep.mono {ok ok' : Nat → Prop} {w w' : World} (h : Keeps ok ok' w w') {ds : List DV} {v : Value} (hr : AggRep ok w ds v) : AggRep ok' w' ds v := by
  obtain ⟨cs, hv, hr⟩ := hr
  exact ⟨cs, hv, hr.mono (fun d v => Rep.mono h d v)⟩
theorem RVOK'.mono {ok ok' : Nat → Prop} {w w' : World} (h : Keeps ok ok' w w') {r : RV} {v : Value} (hr : RVOK' ok w r v) : RVOK' ok' w' r v := by
  cases r with
  | v d => exact Rep.mono h d v hr
  | agg ds => exact AggRep.mono h hr
  | own => exact hr.elim
theorem CloOK.mono {ok ok' : Nat → Prop} {w w' : World} (h : Keeps ok ok' w w') {f : FuncId} {caps : List (List DV)} {v : Value} (hr : CloOK ok w f caps v) : CloOK ok' w' f caps v := by
  obtain ⟨cs, hv, hr⟩ := hr
  exact ⟨cs, hv, hr.mono (fun ds v => fun ⟨b, o, h1, h2, h3⟩ => ⟨b, o, h1, (h b h2).1, RepRow.mono h b h2 ds o h3⟩)⟩
theorem ownBlk_lt {w : World} {B : Nat} {e size : Nat} {v : Value} {n : Nat} {xs : List Value} (h : w.ownsRow B e size v n xs) {b : Nat} (hb : ownBlk v = some b) : B ≤ b ∧ b < w.heap.size := by
  refine h.lt b ?_
  cases v with
  | slice a n c => cases a <;> simp_all [ownBlk, Value.ownBlock]
  | _ => simp [ownBlk] at hb
theorem ownsRow_keep {w w' : World} {B : Nat} {e size : Nat} {v : Value} {n : Nat} {xs : List Value} (h : w.ownsRow B e size v n xs)
    (hk : ∀ b, ownBlk v = some b → w'.heap[b]? = w.heap[b]?) : w'.ownsRow B e size v n xs := by
  refine ⟨h.1, ?_⟩
  rcases h.2 with hn | ⟨g, cap, cur, rfl, hb, hg, r⟩
  · exact .inl hn
  · exact .inr ⟨g, cap, cur, rfl, hb, by rw [hk g rfl]; exact hg, r⟩
theorem OwnRep.keep {B : Nat} {ok ok' : Nat → Prop} {w w' : World} {e sz : Nat} {es : List (List DV)} {v : Value} (hr : OwnRep B ok w e sz es v)
    (h : Keeps ok ok' w w') (hk : ∀ b, ownBlk v = some b → w'.heap[b]? = w.heap[b]?) (hn : ∀ b, ownBlk v = some b → ¬ ok' b) : OwnRep B ok' w' e sz es v := by
  obtain ⟨h1, xs, h2, h3, _⟩ := hr
  exact ⟨h1, xs, ownsRow_keep h2 hk, h3.mono (fun d v => Rep.mono h d v), hn⟩
theorem SlotOK.grow {B : Bd} {ok ok' : Nat → Prop} {w w' : World} {a : Act} {E : Env} {s : Slot} {v : Value} (hlt : ∀ b, ok b → b < w.heap.size)
    (hb : Below w.heap.size w w') (hx : OkExt ok ok' w w') (h : SlotOK B ok w a E s v) : SlotOK B ok' w' a E s v := by
  have hk := Keeps.of hlt hb hx
  cases s with
  | undef => trivial
  | v d => exact Rep.mono hk d v h
  | agg ds => exact AggRep.mono hk h
  | tup rs =>
    obtain ⟨vs, hv, hr⟩ := h
    exact ⟨vs, hv, hr.mono (fun _ _ h => RVOK'.mono hk h)⟩
  | own e sz bys es =>
    have h' := h
    obtain ⟨_, xs, ho, _, hn⟩ := h'
    refine OwnRep.keep h hk (fun b hb' => hb.block b (ownBlk_lt ho hb').2) (fun b hb' hk' => ?_)
    rcases hx.new b hk' with h1 | h1
    · exact hn b hb' h1
    · have := (ownBlk_lt ho hb').2; omega
  | box ds =>
    obtain ⟨b, cs, t, hv, hB, hno, hh, hr⟩ := h
    have hbl : b < w.heap.size := (Array.getElem?_eq_some_iff.1 hh).1
    refine ⟨b, cs, t, hv, hB, fun h1 => ?_, by rw [hb.block b hbl]; exact hh, hr.mono (fun d v => Rep.mono hk d v)⟩
    rcases hx.new b h1 with h2 | h2
    · exact hno h2
    · omega
  | al n => exact h
  | ref n o => exact h
  | oel n i o => exact h
  | row ds =>
    obtain ⟨b, o, hv, hb', hr⟩ := h
    exact ⟨b, o, hv, hx.up b hb', RepRow.mono hk b hb' ds o hr⟩
  | clo f caps => exact CloOK.mono hk h
  | ub pt pf => exact h
  | skp => exact h
  | heap fr v0 bs e sz bys es =>
    obtain ⟨h1, h2, h3⟩ := h
    refine ⟨XRep.mono hk _ _ _ (fun b hb' => hb.block b (h3 b hb').2.2) h1, h2, fun b hb' => ⟨fun hk' => ?_, (h3 b hb').2.1, Nat.lt_of_lt_of_le (h3 b hb').2.2 hb.size⟩⟩
    rcases hx.new b hk' with h4 | h4
    · exact (h3 b hb').1 h4
    · have := (h3 b hb').2.2; omega
  | gp m i o => exact h
  | hold b o =>
    obtain ⟨h1, h2, h3⟩ := h
    have hbl : b < w.heap.size := (Array.getElem?_eq_some_iff.1 h1).1
    refine ⟨by rw [hb.block b hbl]; exact h1, fun h4 => ?_, h3⟩
    rcases hx.new b h4 with h5 | h5
    · exact h2 h5
    · omega
theorem InvO.grow {ok ok' : Nat → Prop} {N : Nat} {B : Bd} {w0 : World} {E : Env} {a : Act} {w w' : World} (h : InvO ok N B w0 E a w)
    (hb : Below w.heap.size w w') (hx : OkExt ok ok' w w') : InvO ok' N B w0 E a w' where
  size := h.size
  defers := h.defers
  below := h.below.trans (.of (hb.mono h.base))
  base := Nat.le_trans h.base hb.size
  okLt := hx.lt
  slot n := (h.slot n).grow h.okLt hb hx
  apart := h.apart
theorem tm_put {a : Act} {d : Nat} {v : Value} (hd : d < a.tmps.size) (n : Nat) : tm (a.put (some d) v) n = if n = d then v else tm a n := by
  simp only [tm, Act.put]
  rw [Array.getD_eq_getD_getElem?, Array.getD_eq_getD_getElem?, Array.getElem?_setIfInBounds]
  by_cases h : d = n
  · subst h; simp [hd]
  · simp [h, Ne.symm h]
theorem noRefs_get {d : Nat} : ∀ {E : Env}, noRefs d E = true → ∀ n, (get E n).points d = false
  | [], _, n => by simp [get, Slot.points]
  | (m, s) :: E, h, n => by
    simp only [noRefs, Bool.and_eq_true, Bool.not_eq_true'] at h
    simp only [get]
    split
    · exact h.1
    · exact noRefs_get h.2 n
theorem SlotOK.put {B : Bd} {ok : Nat → Prop} {w : World} {a : Act} {E : Env} {s s' : Slot} {v v' : Value} {d : Nat} (hd : d < a.tmps.size)
    (hp : s.points d = false) (h : SlotOK B ok w a E s v) : SlotOK B ok w (a.put (some d) v') ((d, s') :: E) s v := by
  cases s with
  | al n =>
    have hn : n ≠ d := by simpa [Slot.points] using hp
    obtain ⟨h1, h2⟩ := h
    exact ⟨by rw [tm_put hd, if_neg hn]; exact h1, by simpa [get, Ne.symm hn] using h2⟩
  | ref n o =>
    have hn : n ≠ d := by simpa [Slot.points] using hp
    obtain ⟨b, ds, h1, h2, h3⟩ := h
    exact ⟨b, ds, by rw [tm_put hd, if_neg hn]; exact h1, h2, by simpa [get, Ne.symm hn] using h3⟩
  | oel n i o =>
    have hn : n ≠ d := by simpa [Slot.points] using hp
    obtain ⟨b, len, cap, e, sz, bys, es, h1, h2, h3, h4⟩ := h
    exact ⟨b, len, cap, e, sz, bys, es, by rw [tm_put hd, if_neg hn]; exact h1, h2, by simpa [get, Ne.symm hn] using h3, h4⟩
  | gp m i o =>
    have hn : m ≠ d := by simpa [Slot.points] using hp
    obtain ⟨b, len, cap, fr, v0, bs, e, sz, bys, es, h1, h2, h3, h4⟩ := h
    exact ⟨b, len, cap, fr, v0, bs, e, sz, bys, es, by simpa [get, Ne.symm hn] using h1, h2, h3, h4⟩
  | _ => exact h
theorem points_excl {B : Bd} {ok : Nat → Prop} {w : World} {a : Act} {E : Env} {s : Slot} {v : Value} {d : Nat}
    (hp : s.points d = true) (h : SlotOK B ok w a E s v) : (get E d).excl = true := by
  cases s with
  | al n =>
    obtain ⟨_, e, sz, bys, es, h2⟩ := h
    have hn : n = d := by simpa [Slot.points] using hp
    subst hn; simp [h2, Slot.excl]
  | ref n o =>
    obtain ⟨b, ds, h1, h2, h3⟩ := h
    have hn : n = d := by simpa [Slot.points] using hp
    subst hn; simp [h3, Slot.excl]
  | oel n i o =>
    obtain ⟨b, len, cap, e, sz, bys, es, h1, h2, h3, h4⟩ := h
    have hn : n = d := by simpa [Slot.points] using hp
    subst hn; simp [h3, Slot.excl]
  | gp m i o =>
    obtain ⟨b, len, cap, fr, v0, bs, e, sz, bys, es, h1, _⟩ := h
    have hn : m = d := by simpa [Slot.points] using hp
    subst hn; simp [h1, Slot.excl]
  | _ => simp [Slot.points] at hp
def okPut (d : Nat) (s : Slot) (E : Env) : Bool := !(get E d).excl || (noRefs d E && !s.points d)
theorem okPut_points {B : Bd} {ok : Nat → Prop} {N : Nat} {w0 w : World} {a : Act} {E : Env} {s : Slot} {v : Value} {d : Nat} (hI : InvO ok N B w0 E a w)
    (hp : okPut d s E = true) (h : SlotOK B ok w a E s v) : s.points d = false ∧ ∀ n, (get E n).points d = false := by
  simp only [okPut, Bool.or_eq_true, Bool.not_eq_true', Bool.and_eq_true] at hp
  rcases hp with hp | ⟨hp1, hp2⟩
  · refine ⟨?_, fun n => ?_⟩
    · cases hs : s.points d with
      | false => rfl
      | true => have := points_excl hs h; simp [hp] at this
    · cases hs : (get E n).points d with
      | false => rfl
      | true => have := points_excl hs (hI.slot n); simp [hp] at this
  · exact ⟨hp2, fun n => noRefs_get hp1 n⟩
theorem blkP_none {s : Slot} {v : Value} (h : s.excl = false) {b : Nat} : ¬ blkP s v b := by
  cases s <;> simp_all [blkP, Slot.excl]
theorem InvO.put {ok : Nat → Prop} {N : Nat} {B : Bd} {w0 : World} {E : Env} {a : Act} {w : World} (h : InvO ok N B w0 E a w) {d : Nat} {s : Slot} {v : Value}
    (hd : d < N) (hp : okPut d s E = true) (hs : SlotOK B ok w a E s v)
    (hex : ∀ b, blkP s v b → ∀ n, n ≠ d → ¬ blkP (get E n) (tm a n) b) : InvO ok N B w0 ((d, s) :: E) (a.put (some d) v) w := by
  have hd' : d < a.tmps.size := by rw [h.size]; exact hd
  obtain ⟨hp1, hp2⟩ := okPut_points h hp hs
  have hg : ∀ n, get ((d, s) :: E) n = if n = d then s else get E n := fun n => by
    simp only [get]; by_cases e : d = n
    · simp [e]
    · simp [e, Ne.symm e]
  refine ⟨by simp [Act.put, h.size], by simp [Act.put, h.defers], h.below, h.base, h.okLt, fun n => ?_, fun n m b h1 h2 => ?_⟩
  · rw [hg, tm_put hd']
    by_cases e : n = d
    · simp only [e, if_true]; exact hs.put hd' hp1
    · simp only [e, if_false]; exact (h.slot n).put hd' (hp2 n)
  · rw [hg, tm_put hd'] at h1 h2
    by_cases e : n = d <;> by_cases e' : m = d
    · rw [e, e']
    · simp only [e, e', if_true, if_false] at h1 h2
      exact absurd h2 (hex b h1 m e')
    · simp only [e, e', if_true, if_false] at h1 h2
      exact absurd h1 (hex b h2 n e)
    · simp only [e, e', if_false] at h1 h2
      exact h.apart n m b h1 h2
end Go.Rd

namespace Go.Rd
open Go.RowKit
def mx : Operand → X → Bool
  | .tmp n, .t m => n == m
  | .const (.bool b), .c (.bool b') => b == b'
  | .const (.int k n), .c (.int k' n') => decide (k = k') && n == n'
  | .const (.string s), .c (.str l) => s.data.toList == l
  | .const (.slice none 0 0), .nil _ => true
  | .func g, .fn f => g == f
  | _, _ => false
def mxo : Option Operand → Option X → Bool
  | none, none => true
  | some x, some y => mx x y
  | _, _ => false
def isAggT (P : Program) (t : TypeId) : Bool := match P.underlying t with | some (.struct _) | some (.array _ _) => true | _ => false
def scalT (P : Program) (t : TypeId) : Bool := match P.underlying t with | some (.struct _) | some (.array _ _) => false | some _ => true | none => false
def szT (P : Program) (t : TypeId) : Option Nat := (P.info? t).map (·.size)
def elemT (P : Program) (t : TypeId) : Option TypeId := match P.underlying t with | some (.slice e) => some e | _ => none
theorem mx_ok {ok : Nat → Prop} {N : Nat} {B : Bd} {w0 : World} {E : Env} {a : Act} {w : World} (h : InvO ok N B w0 E a w) {y : Operand} {x : X}
    (hm : mx y x = true) : SlotOK B ok w a E (vw E x) (a.eval y) := by
  unfold mx at hm
  split at hm
  · rename_i n m
    have e : n = m := by simpa using hm
    subst e
    have hs := h.slot n
    simp only [vw, Act.eval]
    change SlotOK B ok w a E _ (tm a n)
    cases hg : get E n with
    | own e sz bys es => exact ⟨rfl, e, sz, bys, es, hg⟩
    | box ds =>
      rw [hg] at hs
      obtain ⟨b, cs, t, hv, _⟩ := hs
      exact ⟨b, ds, hv, hv, hg⟩
    | heap fr v0 bs e sz bys es => trivial
    | hold b o => trivial
    | _ => rw [hg] at hs; exact hs
  · have e := by simpa using hm
    subst e; simp [vw, Act.eval, SlotOK, Rep]
  · obtain ⟨rfl, rfl⟩ : _ ∧ _ := by simpa using hm
    simp [vw, Act.eval, SlotOK, Rep]
  · have e := by simpa using hm
    subst e; simp [vw, Act.eval, SlotOK, Rep]
  · simp [vw, Act.eval, SlotOK, Rep]
  · have e := by simpa using hm
    subst e; exact ⟨#[], by simp [Act.eval], trivial⟩
  · exact (Bool.false_ne_true hm).elim
theorem vInt_ok {ok : Nat → Prop} {N : Nat} {B : Bd} {w0 : World} {E : Env} {a : Act} {w : World} (h : InvO ok N B w0 E a w) {y : Operand} {x : X} {n : Int}
    (hm : mx y x = true) (hv : vInt E x = some n) : ∃ k, a.eval y = .int k n ∧ vw E x = .v (.int k n) := by
  have hs := mx_ok h hm
  unfold vInt at hv
  split at hv
  · rename_i k n' he
    simp only [Option.some.injEq] at hv; subst hv
    rw [he] at hs
    exact ⟨k, by simpa [SlotOK, Rep] using hs, he⟩
  · exact (Option.some_ne_none _ hv.symm).elim
theorem vBool_ok {ok : Nat → Prop} {N : Nat} {B : Bd} {w0 : World} {E : Env} {a : Act} {w : World} (h : InvO ok N B w0 E a w) {y : Operand} {x : X} {n : Bool}
    (hm : mx y x = true) (hv : vBool E x = some n) : a.eval y = .bool n := by
  have hs := mx_ok h hm
  unfold vBool at hv
  split at hv
  · rename_i n' he
    simp only [Option.some.injEq] at hv; subst hv
    rw [he] at hs
    simpa [SlotOK, Rep] using hs
  · exact (Option.some_ne_none _ hv.symm).elim
theorem vStr_ok {ok : Nat → Prop} {N : Nat} {B : Bd} {w0 : World} {E : Env} {a : Act} {w : World} (h : InvO ok N B w0 E a w) {y : Operand} {x : X} {n : List UInt8}
    (hm : mx y x = true) (hv : vStr E x = some n) : a.eval y = .string ⟨⟨n⟩⟩ := by
  have hs := mx_ok h hm
  unfold vStr at hv
  split at hv
  · rename_i n' he
    simp only [Option.some.injEq] at hv; subst hv
    rw [he] at hs
    simpa [SlotOK, Rep] using hs
  · exact (Option.some_ne_none _ hv.symm).elim
theorem own_val {B0 : Nat} {ok : Nat → Prop} {w : World} {e sz : Nat} {es : List (List DV)} {v : Value} (h : OwnRep B0 ok w e sz es v) :
    (v = .slice none 0 0 ∧ es = []) ∨ ∃ g cap cur, v = .slice (some ⟨g, 0, none⟩) es.length cap ∧ B0 ≤ g ∧ w.heap[g]? = some (.cells cur e (0, 0)) ∧ es.length ≤ cap ∧ cur.size = cap * sz ∧
      ¬ ok g ∧ All2 (Rep ok w) es.flatten (cur.toList.take (es.length * sz)) := by
  obtain ⟨h1, xs, ⟨hl, h2⟩, h3, h4⟩ := h
  rcases h2 with ⟨hv, hn⟩ | ⟨g, cap, cur, hv, hb, hg, hc, _, hs, ht⟩
  · exact .inl ⟨hv, List.eq_nil_of_length_eq_zero hn⟩
  · exact .inr ⟨g, cap, cur, hv, hb, hg, hc, hs, h4 g (by rw [hv]; rfl), by rw [ht]; exact h3⟩
theorem vEls_ok {ok : Nat → Prop} {N : Nat} {B : Bd} {w0 : World} {E : Env} {a : Act} {w : World} (h : InvO ok N B w0 E a w) {y : Operand} {x : X} {es : List (List DV)}
    (hm : mx y x = true) (hv : vEls E x = some es) : ∃ b cap, a.eval y = .slice b es.length cap := by
  have hs := mx_ok h hm
  unfold vEls at hv
  split at hv
  · rename_i sz es' he
    simp only [Option.some.injEq] at hv; subst hv
    rw [he] at hs
    simp only [SlotOK, Rep] at hs
    obtain ⟨b, cap, hs, _⟩ := hs
    exact ⟨b, cap, hs⟩
  · rename_i n he
    rw [he] at hs
    obtain ⟨hs, _⟩ := hs
    split at hv
    · rename_i e sz bys es' hg
      simp only [Option.some.injEq] at hv; subst hv
      have hn := h.slot n
      rw [hg] at hn
      rw [hs]
      rcases own_val hn with ⟨h1, h2⟩ | ⟨g, cap, cur, h1, _⟩
      · exact ⟨none, 0, by rw [h1, h2]; rfl⟩
      · exact ⟨_, cap, h1⟩
    · exact (Option.some_ne_none _ hv.symm).elim
  · exact (Option.some_ne_none _ hv.symm).elim
theorem cell_off {w : World} {b o : Nat} {cs : Array Value} {t : TypeId} {fz : Nat × Nat} (hh : w.heap[b]? = some (.cells cs t fz)) : w.cell? ⟨b, o, none⟩ = cs[o]? := by
  simp [World.cell?, hh]
theorem addr_add (b o n : Nat) : (⟨b, o, none⟩ : Addr).add n = ⟨b, o + n, none⟩ := by
  unfold Addr.add; split <;> simp_all
theorem repRow_drop {ok : Nat → Prop} {w : World} {b : Nat} : ∀ (ds : List DV) (o n : Nat), RepRow ok w b ds o → RepRow ok w b (ds.drop n) (o + n)
  | ds, o, 0, h => by simpa using h
  | [], o, n + 1, _ => by simp [RepRow]
  | d :: ds, o, n + 1, h => by
    simp only [RepRow] at h
    have := repRow_drop ds (o + 1) n h.2
    simpa [Nat.add_assoc, Nat.add_comm 1 n] using this
theorem repRows_get {ok : Nat → Prop} {w : World} {sz b : Nat} : ∀ (es : List (List DV)) (o i : Nat), RepRows ok w sz b es o → i < es.length → RepRow ok w b (es.getD i []) (o + i * sz) ∧ (es.getD i []).length = sz
  | [], _, _, _, h => by simp at h
  | r :: rs, o, 0, h, _ => by
    simp only [RepRows] at h
    simpa using ⟨h.2.1, h.1⟩
  | r :: rs, o, i + 1, h, hi => by
    simp only [RepRows] at h
    have := repRows_get rs (o + sz) i h.2.2 (by simpa using hi)
    have e : o + sz + i * sz = o + (i + 1) * sz := by rw [Nat.add_mul]; omega
    rw [e] at this
    simpa using this
theorem repRow_vals {ok : Nat → Prop} {w : World} {b : Nat} : ∀ (ds : List DV) (o : Nat), RepRow ok w b ds o → ∃ vs : List Value, All2 (Rep ok w) ds vs ∧ ∀ j v, vs[j]? = some v → w.cell? ⟨b, o + j, none⟩ = some v
  | [], _, _ => ⟨[], trivial, by simp⟩
  | d :: ds, o, h => by
    simp only [RepRow] at h
    obtain ⟨⟨v, hc, hr⟩, h⟩ := h
    obtain ⟨vs, h1, h2⟩ := repRow_vals ds (o + 1) h
    refine ⟨v :: vs, ⟨hr, h1⟩, fun j u hu => ?_⟩
    cases j with
    | zero => simp at hu; subst hu; simpa using hc
    | succ j =>
      have := h2 j u (by simpa using hu)
      rw [show o + (j + 1) = o + 1 + j by omega]; exact this
theorem run_isAgg_true {P : Program} {t : TypeId} (h : isAggT P t = true) (w : World) : (isAgg t).run P w = .ok true w := by
  unfold isAggT at h
  unfold isAgg
  split at h
  · rename_i fs hu; simp [run_underlying hu]
  · rename_i n e hu; simp [run_underlying hu]
  · exact (Bool.false_ne_true h).elim
theorem run_isAgg_false {P : Program} {t : TypeId} (h : scalT P t = true) (w : World) : (isAgg t).run P w = .ok false w := by
  unfold scalT at h
  unfold isAgg
  split at h
  · exact (Bool.false_ne_true h).elim
  · exact (Bool.false_ne_true h).elim
  · rename_i d h1 h2 hu
    rw [Sem.run_bind, run_underlying hu]
    cases d <;> simp_all
  · exact (Bool.false_ne_true h).elim
theorem run_lda {P : Program} {w : World} {t : TypeId} {b o : Nat} {vs : List Value} (ht : isAggT P t = true) (hs : szT P t = some vs.length)
    (h : ∀ j v, vs[j]? = some v → w.cell? ⟨b, o + j, none⟩ = some v) : (loadVar t ⟨b, o, none⟩).run P w = .ok (.agg vs.toArray) w := by
  have hl := run_loadCells_list (P := P) w ⟨b, o, none⟩ vs (fun j v hv => by rw [addr_add]; exact h j v hv)
  unfold szT at hs
  cases hi : P.info? t with
  | none => simp [hi] at hs
  | some i =>
    have e : i.size = vs.length := by simpa [hi] using hs
    simp [loadVar, run_isAgg_true ht, sizeOf, typeInfo, hi, e, hl]
theorem run_lds {P : Program} {w : World} {t : TypeId} {b o : Nat} {v : Value} (ht : scalT P t = true)
    (h : w.cell? ⟨b, o, none⟩ = some v) : (loadVar t ⟨b, o, none⟩).run P w = .ok v w := by
  simp [loadVar, run_isAgg_false ht, h]
end Go.Rd

namespace Go.Rd
open Go.RowKit
def fieldsFlat (P : Program) : List FK → List Field → Nat → Bool
  | [], [], _ => true
  | k :: ks, f :: fs, i => f.offset == i && f.name != "_" && scalT P f.type &&
      (match P.underlying f.type, k with | some (.int _), .int => true | some .string, .str => true | some .bool, .bool => true | _, _ => false) && fieldsFlat P ks fs (i + 1)
  | _, _, _ => false
def chkB (P : Program) : Builtin → List Operand → List TypeId → AOp → Bool
  | .len, [y], [t], .len x => mx y x && (elemT P t).isSome
  | .len, [y], [t], .slen x => mx y x && (match P.underlying t with | some .string => true | _ => false)
  | .max, [y, z], _, .mnx true x u => mx y x && mx z u
  | .min, [y, z], _, .mnx false x u => mx y x && mx z u
  | _, _, _, _ => false
def chk (P : Program) : Op → AOp → Bool
  | .move y, .mv x => mx y x
  | .assign y, .mv x => mx y x
  | .pick c a b, .pick c' a' b' => mx c c' && mx a a' && mx b b'
  | .fieldAddr s y f, .fld x off => mx y x && (match P.underlying s with
      | some (.struct fs) => match fs[f]? with
        | some fd => fd.offset == off && (match P.info? fd.type with | some i => i.size != 0 | none => false)
        | none => false
      | _ => false)
  | .indexAddr t y i, .idx sz x j => mx y x && mx i j && (match elemT P t with | some e => szT P e == some sz | none => false)
  | .load t y, .ld x => mx y x && scalT P t
  | .load t y, .lda n x => mx y x && isAggT P t && szT P t == some n
  | .binOp op _ y z _, .bin op' x u => decide (op = op') && mx y x && mx z u
  | .binOp op t y z _, .eqb neg x u => decide (op = if neg then .neq else .eql) && mx y x && mx z u && (match P.underlying t with | some .bool => true | _ => false)
  | .binOp op t y z _, .eqa ks neg x u => decide (op = if neg then .neq else .eql) && mx y x && mx z u && !P.eqGuardType P.depth t && !P.stoodInHeld t &&
      (match P.underlying t with | some (.struct fs) => fieldsFlat P ks fs.toList 0 | _ => false)
  | .unOp .not _ y, .not x => mx y x
  | .index t y i, .sidx x j => mx y x && mx i j && (match P.underlying t with | some .string => true | _ => false)
  | .slice t y lo hi none, .ssub x lo' hi' => mx y x && mxo lo lo' && mxo hi hi' && (match P.underlying t with | some .string => true | _ => false)
  | .slice t y lo hi none, .ssl sz x lo' hi' => mx y x && mxo lo lo' && mxo hi hi' && (match elemT P t with | some e => szT P e == some sz | none => false)
  | .extract y i, .ext x j => mx y x && i == j
  | .convert src dst y, .cvi k x => mx y x && (P.underlying src).isSome && (match P.underlying dst with | some (.int k') => decide (k' = k) | _ => false)
  | _, _ => false
section
variable {P : Program} {ok : Nat → Prop} {N : Nat} {B : Bd} {w0 : World} {E : Env} {a : Act} {w : World}
def Gives (P : Program) (ok : Nat → Prop) (B : Bd) (E : Env) (a : Act) (w : World) (o : Op) (s : Slot) : Prop :=
  ∀ (d : Option Tmp) (ty : TypeId) (pos : String) (af : Array Edge) (gd : Option (Nat × Bool)),
    ∃ v, (execOp a.eval { dst := d, op := o, type := ty, pos := pos, after := af, guard := gd }).run P w = .ok (.value v) w ∧ SlotOK B ok w a E s v
theorem gives_mv {y : Operand} {x : X} (h : InvO ok N B w0 E a w) (hc : chk P (.move y) (.mv x) = true) : Gives P ok B E a w (.move y) (vw E x) :=
  fun _ _ _ _ _ => ⟨a.eval y, rfl, mx_ok h hc⟩
theorem gives_mva {y : Operand} {x : X} (h : InvO ok N B w0 E a w) (hc : chk P (.assign y) (.mv x) = true) : Gives P ok B E a w (.assign y) (vw E x) :=
  fun _ _ _ _ _ => ⟨a.eval y, rfl, mx_ok h hc⟩
theorem gives_pick {c p q : Operand} {c' p' q' : X} {s : Slot} (h : InvO ok N B w0 E a w) (hc : chk P (.pick c p q) (.pick c' p' q') = true) (he : ev E (.pick c' p' q') = some s) :
    Gives P ok B E a w (.pick c p q) s := by
  simp only [chk, Bool.and_eq_true] at hc
  simp only [ev] at he
  intro d ty pos af gd
  cases hb : vBool E c' with
  | none => simp [hb] at he
  | some b =>
    have e := vBool_ok h hc.1.1 hb
    rw [hb] at he
    cases b with
    | true =>
      simp only [Option.some.injEq] at he; subst he
      exact ⟨a.eval p, by simp [execOp, e, asBool], mx_ok h hc.1.2⟩
    | false =>
      simp only [Option.some.injEq] at he; subst he
      exact ⟨a.eval q, by simp [execOp, e, asBool], mx_ok h hc.2⟩
theorem gives_fld {t : TypeId} {y : Operand} {f : Nat} {x : X} {off : Nat} {s : Slot} (h : InvO ok N B w0 E a w) (hc : chk P (.fieldAddr t y f) (.fld x off) = true) (he : ev E (.fld x off) = some s) :
    Gives P ok B E a w (.fieldAddr t y f) s := by
  simp only [chk, Bool.and_eq_true] at hc
  obtain ⟨hm, hc⟩ := hc
  split at hc
  case h_2 => exact (Bool.false_ne_true hc).elim
  rename_i fs hu
  split at hc
  case h_2 => exact (Bool.false_ne_true hc).elim
  rename_i fd hf
  simp only [Bool.and_eq_true, beq_iff_eq] at hc
  obtain ⟨rfl, hi⟩ := hc
  split at hi
  case h_2 => exact (Bool.false_ne_true hi).elim
  rename_i i hi'
  have hz : i.size ≠ 0 := by simpa using hi
  have key : ∀ (b o : Nat), a.eval y = .pointer (some ⟨b, o, none⟩) → ∀ (d : Option Tmp) (ty : TypeId) (pos : String) (af : Array Edge) (gd : Option (Nat × Bool)),
      (execOp a.eval { dst := d, op := .fieldAddr t y f, type := ty, pos := pos, after := af, guard := gd }).run P w = .ok (.value (.pointer (some ⟨b, o + fd.offset, none⟩))) w := by
    intro b o hy d ty pos af gd
    simp [execOp, hy, Instr.fieldAt, run_underlying hu, hf, Instr.sureAddr, fieldPlace, sizeOf, typeInfo, hi', hz, addr_add]
  have hs := mx_ok h hm
  intro d ty pos af gd
  simp only [ev] at he
  split at he
  · rename_i n o hv
    simp only [Option.some.injEq] at he; subst he
    rw [hv] at hs
    obtain ⟨b, ds, h1, h2, h3⟩ := hs
    exact ⟨_, key b o h2 d ty pos af gd, b, ds, h1, rfl, h3⟩
  · rename_i n i' o hv
    simp only [Option.some.injEq] at he; subst he
    rw [hv] at hs
    obtain ⟨b, len, cap, e, sz, bys, es, h1, h2, h3, h4⟩ := hs
    exact ⟨_, key b _ h2 d ty pos af gd, b, len, cap, e, sz, bys, es, h1, by rw [Nat.add_assoc], h3, h4⟩
  · rename_i ds hv
    simp only [Option.some.injEq] at he; subst he
    rw [hv] at hs
    obtain ⟨b, o, h1, h2, h3⟩ := hs
    exact ⟨_, key b o h1 d ty pos af gd, b, o + fd.offset, rfl, h2, repRow_drop ds o _ h3⟩
  · simp at he
theorem elemT_some {t e : TypeId} (h : elemT P t = some e) : P.underlying t = some (.slice e) := by
  unfold elemT at h
  split at h
  · rename_i e' hu; simp at h; subst h; exact hu
  · simp at h
theorem gives_idx {t : TypeId} {y i : Operand} {sz : Nat} {x j : X} {s : Slot} (h : InvO ok N B w0 E a w) (hc : chk P (.indexAddr t y i) (.idx sz x j) = true) (he : ev E (.idx sz x j) = some s) :
    Gives P ok B E a w (.indexAddr t y i) s := by
  simp only [chk, Bool.and_eq_true] at hc
  obtain ⟨⟨hm, hmi⟩, hc⟩ := hc
  split at hc
  case h_2 => exact (Bool.false_ne_true hc).elim
  rename_i e hel
  have hu := elemT_some hel
  have hsz : szT P e = some sz := by simpa using hc
  simp only [ev] at he
  cases hk : vInt E j with
  | none => simp [hk] at he
  | some k =>
    obtain ⟨ki, hi, _⟩ := vInt_ok h hmi hk
    rw [hk] at he
    have hs := mx_ok h hm
    unfold szT at hsz
    cases hie : P.info? e with
    | none => simp [hie] at hsz
    | some ie =>
      have hse : ie.size = sz := by simpa [hie] using hsz
      have hel' : P.elem t = e := by simp [Program.elem, hu]
      have key : ∀ (b o len cap : Nat), a.eval y = .slice (some ⟨b, o, none⟩) len cap → 0 ≤ k → k < len → ∀ (d : Option Tmp) (ty : TypeId) (pos : String) (af : Array Edge) (gd : Option (Nat × Bool)),
          (execOp a.eval { dst := d, op := .indexAddr t y i, type := ty, pos := pos, after := af, guard := gd }).run P w = .ok (.value (.pointer (some ⟨b, o + k.toNat * sz, none⟩))) w := by
        intro b o len cap hy h0 h1 d ty pos af gd
        simp [execOp, hy, hi, Instr.indexAt, asIntOf, run_underlying hu, sizeOf, typeInfo, hie, hse, addr_add, h0, h1]
      intro d ty pos af gd
      dsimp only at he
      split at he
      · rename_i sz' es hv
        split at he
        · rename_i hb
          obtain ⟨rfl, h0, h1⟩ := hb
          simp only [Option.some.injEq] at he; subst he
          rw [hv] at hs
          simp only [SlotOK, Rep] at hs
          obtain ⟨ad, cap, h2, _, h3⟩ := hs
          have hkl : k.toNat < es.length := by omega
          rcases h3 with h3 | ⟨b, o, h3, h4, h5⟩
          · subst h3; simp at hkl
          · subst h3
            exact ⟨_, key b o _ cap h2 h0 h1 d ty pos af gd, b, _, rfl, h4, (repRows_get es o k.toNat h5 hkl).1⟩
        · simp at he
      · rename_i n hv
        split at he
        · rename_i e' sz' bys es hg
          split at he
          · rename_i hb
            obtain ⟨rfl, h0, h1⟩ := hb
            simp only [Option.some.injEq] at he; subst he
            rw [hv] at hs
            obtain ⟨h2, _⟩ := hs
            have hn := h.slot n
            rw [hg] at hn
            have hkl : k.toNat < es.length := by omega
            rcases own_val hn with ⟨h3, h4⟩ | ⟨g, cap, cur, h3, _⟩
            · subst h4; simp at hkl
            · have := key g 0 _ cap (h2.trans h3) h0 h1 d ty pos af gd
              exact ⟨_, this, g, es.length, cap, e', sz', bys, es, h3, by simp, hg, hkl⟩
          · simp at he
        · simp at he
      · simp at he
theorem flatten_get {sz : Nat} : ∀ (es : List (List DV)) (i o : Nat) (d : DV), (∀ r ∈ es, r.length = sz) → o < sz → (es.getD i [])[o]? = some d → i < es.length → es.flatten[i * sz + o]? = some d
  | [], i, o, d, _, _, _, h => by simp at h
  | r :: rs, 0, o, d, hr, ho, hd, _ => by
    have hrl := hr r (by simp)
    simp only [List.flatten_cons, Nat.zero_mul, Nat.zero_add]
    rw [List.getElem?_append_left (by omega)]
    simpa using hd
  | r :: rs, i + 1, o, d, hr, ho, hd, hi => by
    have hrl := hr r (by simp)
    have := flatten_get rs i o d (fun r h => hr r (by simp [h])) ho (by simpa using hd) (by simpa using hi)
    simp only [List.flatten_cons]
    rw [List.getElem?_append_right (by rw [hrl, Nat.add_mul]; omega), hrl]
    rw [show (i + 1) * sz + o - sz = i * sz + o by rw [Nat.add_mul]; omega]
    exact this
theorem oel_cells {n i o : Nat} {v : Value} (h : InvO ok N B w0 E a w) (hs : SlotOK B ok w a E (.oel n i o) v) :
    ∃ b e sz bys es, v = .pointer (some ⟨b, i * sz + o, none⟩) ∧ get E n = .own e sz bys es ∧ i < es.length ∧ (∀ r ∈ es, r.length = sz) ∧
      ∀ j d, j < sz → (es.getD i [])[j]? = some d → ∃ u, w.cell? ⟨b, i * sz + j, none⟩ = some u ∧ Rep ok w d u := by
  obtain ⟨b, len, cap, e, sz, bys, es, h1, h2, h3, h4⟩ := hs
  have hn := h.slot n
  rw [h3] at hn
  have hlen := hn.1
  rcases own_val hn with ⟨h5, h6⟩ | ⟨g, cap', cur, h5, h6, h7, h8, h9, h10, h11⟩
  · rw [h1] at h5; simp at h5
  · have hgb : g = b := by rw [h1] at h5; simp at h5; exact h5.1.symm
    subst hgb
    refine ⟨g, e, sz, bys, es, h2, h3, h4, hlen, fun j d hj hd => ?_⟩
    have hf := flatten_get es i j d hlen hj hd h4
    obtain ⟨u, hu, hr⟩ := h11.get _ _ _ _ hf
    refine ⟨u, ?_, hr⟩
    rw [cell_off h7]
    rw [List.getElem?_take] at hu
    split at hu
    · simpa using hu
    · simp at hu
theorem gives_ld {t : TypeId} {y : Operand} {x : X} {s : Slot} (h : InvO ok N B w0 E a w) (hc : chk P (.load t y) (.ld x) = true) (he : ev E (.ld x) = some s) :
    Gives P ok B E a w (.load t y) s := by
  simp only [chk, Bool.and_eq_true] at hc
  obtain ⟨hm, hsc⟩ := hc
  have hs := mx_ok h hm
  have key : ∀ (b o : Nat) (v : Value), a.eval y = .pointer (some ⟨b, o, none⟩) → w.cell? ⟨b, o, none⟩ = some v → ∀ (d : Option Tmp) (ty : TypeId) (pos : String) (af : Array Edge) (gd : Option (Nat × Bool)),
      (execOp a.eval { dst := d, op := .load t y, type := ty, pos := pos, after := af, guard := gd }).run P w = .ok (.value v) w := by
    intro b o v hy hv d ty pos af gd
    simp [execOp, hy, Instr.loadAt, Instr.sureAddr, run_lds hsc hv]
  intro d ty pos af gd
  simp only [ev] at he
  split at he
  · rename_i n o hv
    rw [hv] at hs
    obtain ⟨b, ds, h1, h2, h3⟩ := hs
    rw [h3] at he
    dsimp only at he
    have hn := h.slot n
    rw [h3] at hn
    obtain ⟨b', cs, t', h4, _, _, h5, h6⟩ := hn
    have hb : b' = b := by rw [h1] at h4; simp at h4; exact h4.symm
    subst hb
    cases hd : ds[o]? with
    | none => simp [hd] at he
    | some dv =>
      rw [hd] at he
      simp only [Option.map_some, Option.some.injEq] at he; subst he
      obtain ⟨u, hu, hr⟩ := h6.get _ _ _ _ hd
      exact ⟨u, key _ o u h2 (by rw [cell_off h5]; simpa using hu) d ty pos af gd, hr⟩
  · rename_i n i o hv
    rw [hv] at hs
    obtain ⟨b, e, sz, bys, es, h2, h3, h4, h5, h6⟩ := oel_cells h hs
    rw [h3] at he
    dsimp only at he
    split at he
    · rename_i ho
      cases hd : (es.getD i [])[o]? with
      | none => rw [hd] at he; simp at he
      | some dv =>
        rw [hd] at he
        simp only [Option.map_some, Option.some.injEq] at he; subst he
        obtain ⟨u, hu, hr⟩ := h6 o dv ho hd
        exact ⟨u, key _ _ u h2 hu d ty pos af gd, hr⟩
    · simp at he
  · rename_i dv ds hv
    simp only [Option.some.injEq] at he; subst he
    rw [hv] at hs
    obtain ⟨b, o, h1, h2, h3⟩ := hs
    simp only [RepRow] at h3
    obtain ⟨⟨u, hu, hr⟩, _⟩ := h3
    exact ⟨u, key b o u h1 hu d ty pos af gd, hr⟩
  · simp at he
theorem take_drop_get {α : Type} (l : List α) (o m j : Nat) (v : α) (h : ((l.drop o).take m)[j]? = some v) : j < m ∧ l[o + j]? = some v := by
  rw [List.getElem?_take] at h
  split at h
  · rename_i hj; exact ⟨hj, by simpa using h⟩
  · simp at h
theorem gives_lda {t : TypeId} {y : Operand} {m : Nat} {x : X} {s : Slot} (h : InvO ok N B w0 E a w) (hc : chk P (.load t y) (.lda m x) = true) (he : ev E (.lda m x) = some s) :
    Gives P ok B E a w (.load t y) s := by
  simp only [chk, Bool.and_eq_true, beq_iff_eq] at hc
  obtain ⟨⟨hm, hag⟩, hsz⟩ := hc
  have hs := mx_ok h hm
  have key : ∀ (b o : Nat) (vs : List Value), a.eval y = .pointer (some ⟨b, o, none⟩) → vs.length = m → (∀ j v, vs[j]? = some v → w.cell? ⟨b, o + j, none⟩ = some v) →
      ∀ (d : Option Tmp) (ty : TypeId) (pos : String) (af : Array Edge) (gd : Option (Nat × Bool)),
      (execOp a.eval { dst := d, op := .load t y, type := ty, pos := pos, after := af, guard := gd }).run P w = .ok (.value (.agg vs.toArray)) w := by
    intro b o vs hy hl hv d ty pos af gd
    have := run_lda (P := P) hag (by rw [hsz, hl]) hv
    simp [execOp, hy, Instr.loadAt, Instr.sureAddr, this]
  intro d ty pos af gd
  simp only [ev] at he
  split at he
  · rename_i n o hv
    rw [hv] at hs
    obtain ⟨b, ds, h1, h2, h3⟩ := hs
    rw [h3] at he
    dsimp only at he
    have hn := h.slot n
    rw [h3] at hn
    obtain ⟨b', cs, t', h4, _, _, h5, h6⟩ := hn
    have hb : b' = b := by rw [h1] at h4; simp at h4; exact h4.symm
    subst hb
    split at he
    · rename_i hle
      simp only [Option.some.injEq] at he; subst he
      have hl := h6.length
      refine ⟨_, key _ o ((cs.toList.drop o).take m) h2 (by simp at hl ⊢; omega) (fun j v hj => ?_) d ty pos af gd, _, rfl, by simpa using (h6.drop o).take m⟩
      rw [cell_off h5]
      have := (take_drop_get _ _ _ _ _ hj).2
      simpa using this
    · simp at he
  · rename_i n i o hv
    rw [hv] at hs
    obtain ⟨b, e, sz, bys, es, h2, h3, h4, h5, h6⟩ := oel_cells h hs
    rw [h3] at he
    dsimp only at he
    split at he
    · rename_i hle
      simp only [Option.some.injEq] at he; subst he
      have hrl : (es.getD i []).length = sz := by
        rw [List.getD_eq_getElem?_getD, List.getElem?_eq_getElem h4]; exact h5 _ (List.getElem_mem _)
      have hrow : ∀ (k : Nat), k + o ≤ sz → ∃ us : List Value, All2 (Rep ok w) (((es.getD i []).drop o).take k) us ∧ ∀ j v, us[j]? = some v → w.cell? ⟨b, i * sz + o + j, none⟩ = some v := by
        intro k
        induction k with
        | zero => exact fun _ => ⟨[], by simp [All2], by simp⟩
        | succ k ih =>
          intro hk
          obtain ⟨us, hu1, hu2⟩ := ih (by omega)
          have hlt : o + k < (es.getD i []).length := by omega
          obtain ⟨u, hu3, hu4⟩ := h6 (o + k) _ (by omega) (List.getElem?_eq_getElem hlt)
          have hul := hu1.length
          rw [List.length_take, List.length_drop] at hul
          refine ⟨us ++ [u], ?_, fun j v hj => ?_⟩
          · rw [List.take_add_one, List.getElem?_drop, List.getElem?_eq_getElem hlt]
            exact All2.append _ _ _ _ hu1 ⟨hu4, trivial⟩
          · by_cases hjl : j < us.length
            · rw [List.getElem?_append_left hjl] at hj
              exact hu2 j v hj
            · rw [List.getElem?_append_right (by omega)] at hj
              have hj0 : j - us.length = 0 := by
                by_cases h0 : j - us.length = 0
                · exact h0
                · rw [List.getElem?_eq_none (by simp; omega)] at hj; simp at hj
              rw [hj0] at hj
              simp at hj; subst hj
              rw [show i * sz + o + j = i * sz + (o + k) by omega]
              exact hu3
      obtain ⟨us, hu1, hu2⟩ := hrow m (by omega)
      refine ⟨_, key _ _ us h2 ?_ hu2 d ty pos af gd, _, rfl, by simpa using hu1⟩
      have := hu1.length
      rw [List.length_take, List.length_drop] at this
      omega
    · simp at he
  · rename_i ds hv
    split at he
    · rename_i hle
      simp only [Option.some.injEq] at he; subst he
      rw [hv] at hs
      obtain ⟨b, o, h1, h2, h3⟩ := hs
      obtain ⟨us, hu1, hu2⟩ := repRow_vals ds o h3
      have hl := hu1.length
      refine ⟨_, key b o (us.take m) h1 (by simp; omega) (fun j v hj => ?_) d ty pos af gd, _, rfl, by simpa using hu1.take m⟩
      rw [List.getElem?_take] at hj
      split at hj
      · exact hu2 j v hj
      · simp at hj
    · simp at he
  · simp at he
theorem gives_bin {op op' : BinOp} {t t' : TypeId} {y z : Operand} {x u : X} {s : Slot} (h : InvO ok N B w0 E a w) (hc : chk P (.binOp op t y z t') (.bin op' x u) = true) (he : ev E (.bin op' x u) = some s) :
    Gives P ok B E a w (.binOp op t y z t') s := by
  simp only [chk, Bool.and_eq_true, decide_eq_true_eq] at hc
  obtain ⟨⟨rfl, hm⟩, hm'⟩ := hc
  have hs := mx_ok h hm
  have hs' := mx_ok h hm'
  intro d ty pos af gd
  simp only [ev] at he
  split at he
  case h_2 => simp at he
  rename_i dx dy hv hv'
  rw [hv] at hs
  rw [hv'] at hs'
  cases dx <;> cases dy <;> simp only [binD, Option.map_none, reduceCtorEq] at he
  · rename_i k n k' n'
    simp only [SlotOK, Rep] at hs hs'
    split at he
    case isFalse => simp at he
    rename_i hk; subst hk
    cases op <;> simp only [intD, Option.map_some, Option.map_none, Option.some.injEq, reduceCtorEq] at he
    case quo =>
      split at he
      · simp at he
      · rename_i hz; simp only [Option.map_some, Option.some.injEq] at he; subst he
        exact ⟨_, by simp [execOp, hs, hs', eqGuard, binOp, Op.intDiv, hz]; rfl, by simp [SlotOK, Rep]⟩
    case rem =>
      split at he
      · simp at he
      · rename_i hz; simp only [Option.map_some, Option.some.injEq] at he; subst he
        exact ⟨_, by simp [execOp, hs, hs', eqGuard, binOp, Op.intDiv, hz]; rfl, by simp [SlotOK, Rep]⟩
    all_goals
      subst he
      refine ⟨_, by simp [execOp, hs, hs', eqGuard, binOp, Op.intArith, Op.intBits, Op.intCmp]; rfl, ?_⟩
      simp [SlotOK, Rep, bitsD]
  · rename_i l l'
    simp only [SlotOK, Rep] at hs hs'
    have ht : ∀ l : List UInt8, (ByteArray.mk ⟨l⟩).toList = l := fun l => ByteArray.toList_mk l
    cases op <;> simp only [strD, Option.map_some, Option.map_none, Option.some.injEq, reduceCtorEq] at he
    case add =>
      split at he
      case isFalse => simp at he
      rename_i hl
      simp only [Option.map_some, Option.some.injEq] at he; subst he
      have hsz : ¬ (((ByteArray.mk ⟨l⟩).size + (ByteArray.mk ⟨l'⟩).size : Nat) : Int) > IntKind.i64.max := by
        have h1 : (ByteArray.mk ⟨l⟩).size = l.length := rfl
        have h2 : (ByteArray.mk ⟨l'⟩).size = l'.length := rfl
        have h3 : IntKind.i64.max = 9223372036854775807 := by decide
        rw [h1, h2, h3]; omega
      refine ⟨.string (ByteArray.mk ⟨l⟩ ++ ByteArray.mk ⟨l'⟩), ?_, ?_⟩
      · simp only [execOp, hs, hs', eqGuard, binOp, Op.stringOp, Sem.run_bind, Sem.run_pure, Result.andThen_ok, Sem.run_ite, if_neg hsz]
        simp
      · simp only [SlotOK, Rep, Value.string.injEq]
        show ByteArray.mk _ = _
        simp
    all_goals
      subst he
      refine ⟨_, by simp [execOp, hs, hs', eqGuard, binOp, Op.stringOp]; rfl, ?_⟩
      simp [SlotOK, Rep, ht]
theorem gives_eqb {op : BinOp} {t t' : TypeId} {y z : Operand} {neg : Bool} {x u : X} {s : Slot} (h : InvO ok N B w0 E a w) (hc : chk P (.binOp op t y z t') (.eqb neg x u) = true) (he : ev E (.eqb neg x u) = some s) :
    Gives P ok B E a w (.binOp op t y z t') s := by
  simp only [chk, Bool.and_eq_true, decide_eq_true_eq] at hc
  obtain ⟨⟨⟨rfl, hm⟩, hm'⟩, hu⟩ := hc
  split at hu
  case h_2 => exact (Bool.false_ne_true hu).elim
  rename_i hu'
  intro d ty pos af gd
  simp only [ev] at he
  split at he
  case h_2 => simp at he
  rename_i b b' hb hb'
  simp only [Option.some.injEq] at he; subst he
  have e := vBool_ok h hm hb
  have e' := vBool_ok h hm' hb'
  cases neg
  · refine ⟨.bool (b == b'), ?_, by simp [SlotOK, Rep]⟩
    simp [execOp, e, e', eqGuard, binOp, Op.equal, Op.maxDepth, run_equalIn_bool' w 9999 t b b' hu']
  · refine ⟨.bool (!(b == b')), ?_, by simp [SlotOK, Rep]⟩
    simp [execOp, e, e', eqGuard, binOp, Op.equal, Op.maxDepth, run_equalIn_bool' w 9999 t b b' hu']
theorem gives_not {t : TypeId} {y : Operand} {x : X} {s : Slot} (h : InvO ok N B w0 E a w) (hc : chk P (.unOp .not t y) (.not x) = true) (he : ev E (.not x) = some s) :
    Gives P ok B E a w (.unOp .not t y) s := by
  simp only [chk] at hc
  intro d ty pos af gd
  simp only [ev] at he
  cases hb : vBool E x with
  | none => simp [hb] at he
  | some b =>
    rw [hb] at he
    simp only [Option.map_some, Option.some.injEq] at he; subst he
    exact ⟨.bool (!b), by simp [execOp, vBool_ok h hc hb, Op.unary], by simp [SlotOK, Rep]⟩
theorem gives_len {t : TypeId} {y : Operand} {x : X} {s : Slot} (h : InvO ok N B w0 E a w)
    (hc : chkB P .len [y] [t] (.len x) = true) (he : ev E (.len x) = some s) :
    Gives P ok B E a w (.call { callee := .builtin .len, args := #[y], argTypes := #[t] }) s := by
  simp only [chkB, Bool.and_eq_true, Option.isSome_iff_exists] at hc
  obtain ⟨hm, e, hel⟩ := hc
  have hu := elemT_some hel
  intro d ty pos af gd
  simp only [ev] at he
  cases hb : vEls E x with
  | none => simp [hb] at he
  | some es =>
    rw [hb] at he
    simp only [Option.map_some, Option.some.injEq] at he; subst he
    obtain ⟨b, cap, hy⟩ := vEls_ok h hm hb
    exact ⟨.int .i64 es.length, by simp [execOp, resolve, invoke, builtin, Builtin.len_, hy, run_underlying hu, goInt], by simp [SlotOK, Rep]⟩
theorem gives_slen {t : TypeId} {y : Operand} {x : X} {s : Slot} (h : InvO ok N B w0 E a w)
    (hc : chkB P .len [y] [t] (.slen x) = true) (he : ev E (.slen x) = some s) :
    Gives P ok B E a w (.call { callee := .builtin .len, args := #[y], argTypes := #[t] }) s := by
  simp only [chkB, Bool.and_eq_true] at hc
  obtain ⟨hm, hu⟩ := hc
  split at hu
  case h_2 => exact (Bool.false_ne_true hu).elim
  rename_i hu'
  intro d ty pos af gd
  simp only [ev] at he
  cases hb : vStr E x with
  | none => simp [hb] at he
  | some l =>
    rw [hb] at he
    simp only [Option.map_some, Option.some.injEq] at he; subst he
    have e := vStr_ok h hm hb
    refine ⟨.int .i64 l.length, ?_, by simp [SlotOK, Rep]⟩
    simp [execOp, resolve, invoke, builtin, Builtin.len_, e, run_underlying hu', goInt]
    rfl
theorem gives_sidx {t : TypeId} {y i : Operand} {x j : X} {s : Slot} (h : InvO ok N B w0 E a w) (hc : chk P (.index t y i) (.sidx x j) = true) (he : ev E (.sidx x j) = some s) :
    Gives P ok B E a w (.index t y i) s := by
  simp only [chk, Bool.and_eq_true] at hc
  obtain ⟨⟨hm, hmi⟩, hu⟩ := hc
  split at hu
  case h_2 => exact (Bool.false_ne_true hu).elim
  rename_i hu'
  intro d ty pos af gd
  simp only [ev] at he
  split at he
  case h_2 => simp at he
  rename_i l k hl hk
  have e := vStr_ok h hm hl
  obtain ⟨ki, hi, _⟩ := vInt_ok h hmi hk
  split at he
  case isFalse => simp at he
  rename_i hb
  simp only [Option.some.injEq] at he; subst he
  have hb' : 0 ≤ k ∧ k < ((ByteArray.mk ⟨l⟩).size : Int) := hb
  refine ⟨_, by simp only [execOp, e, hi, Sem.run_bind, run_index_string w t _ ki k hu', hb', and_self, dite_true, Result.andThen_ok]; rfl, ?_⟩
  simp only [SlotOK, Rep, Value.int.injEq, true_and]
  have hlt : k.toNat < l.length := by omega
  have : (ByteArray.mk ⟨l⟩)[k.toNat]'(by show k.toNat < l.length; exact hlt) = l[k.toNat] := rfl
  rw [this, List.getD_eq_getElem?_getD, List.getElem?_eq_getElem hlt]
  rfl
theorem gives_ext {y : Operand} {i j : Nat} {x : X} {s : Slot} (h : InvO ok N B w0 E a w) (hc : chk P (.extract y i) (.ext x j) = true) (he : ev E (.ext x j) = some s) :
    Gives P ok B E a w (.extract y i) s := by
  simp only [chk, Bool.and_eq_true, beq_iff_eq] at hc
  obtain ⟨hm, rfl⟩ := hc
  have hs := mx_ok h hm
  intro d ty pos af gd
  simp only [ev] at he
  split at he
  case h_2 => simp at he
  rename_i rs hv
  rw [hv] at hs
  obtain ⟨vs, hvs, hr⟩ := hs
  cases hri : rs[i]? with
  | none => simp [hri] at he
  | some r =>
    obtain ⟨v, hv', hrv⟩ := hr.get _ _ i r hri
    rw [hri] at he
    have hx : (execOp a.eval { dst := d, op := .extract y i, type := ty, pos := pos, after := af, guard := gd }).run P w = .ok (.value v) w := by
      have : vs[i]? = some v := by simpa using hv'
      simp [execOp, hvs, Instr.extract, this]
    cases r with
    | v dv => simp only [Option.some.injEq] at he; subst he; exact ⟨v, hx, hrv⟩
    | agg ds => simp only [Option.some.injEq] at he; subst he; exact ⟨v, hx, hrv⟩
    | own => simp at he
theorem gives_cvi {src dst : TypeId} {y : Operand} {k : IntKind} {x : X} {s : Slot} (h : InvO ok N B w0 E a w) (hc : chk P (.convert src dst y) (.cvi k x) = true) (he : ev E (.cvi k x) = some s) :
    Gives P ok B E a w (.convert src dst y) s := by
  simp only [chk, Bool.and_eq_true] at hc
  obtain ⟨⟨hm, hsrc⟩, hu⟩ := hc
  split at hu
  case h_2 => exact (Bool.false_ne_true hu).elim
  rename_i k' hu'
  have e : k' = k := by simpa using hu
  subst e
  intro d ty pos af gd
  simp only [ev] at he
  cases hn : vInt E x with
  | none => simp [hn] at he
  | some n =>
    rw [hn] at he
    simp only [Option.map_some, Option.some.injEq] at he; subst he
    obtain ⟨ki, hi, _⟩ := vInt_ok h hm hn
    obtain ⟨ds, hds⟩ := Option.isSome_iff_exists.mp hsrc
    exact ⟨.int k' (k'.wrap n), by simp [execOp, hi, convert, run_underlying hds, run_underlying hu', Conv.intToInt], by simp [SlotOK, Rep]⟩
end
end Go.Rd

namespace Go.Rd
open Go.RowKit
section
variable {P : Program} {ok : Nat → Prop} {N : Nat} {B : Bd} {w0 : World} {E : Env} {a : Act} {w : World}
theorem run_part_scal {t : TypeId} {cs : Array Value} {i : Nat} {v : Value} (ht : scalT P t = true) (hv : cs[i]? = some v) : (part t cs i).run P w = .ok v w := by
  simp [part, run_isAgg_false ht, hv]
theorem run_eqFields {xs ys : Array Value} : ∀ (ks : List FK) (fs : List Field) (i : Nat) (ds ds' : List DV) (b : Bool), fieldsFlat P ks fs i = true →
    All2 (Rep ok w) ds (xs.toList.drop i) → All2 (Rep ok w) ds' (ys.toList.drop i) → eqCells ks ds ds' = some b → (Op.eqFields 9999 xs ys fs).run P w = .ok b w
  | [], [], i, ds, ds', b, _, _, _, he => by
    cases ds <;> cases ds' <;> simp [eqCells] at he
    subst he; simp [Op.eqFields]
  | [], _ :: _, _, _, _, _, h, _, _, _ => by simp [fieldsFlat] at h
  | _ :: _, [], _, _, _, _, h, _, _, _ => by simp [fieldsFlat] at h
  | k :: ks, f :: fs, i, ds, ds', b, h, h1, h2, he => by
    simp only [fieldsFlat, Bool.and_eq_true, beq_iff_eq, bne_iff_ne] at h
    obtain ⟨⟨⟨⟨ho, hn⟩, hsc⟩, hk⟩, hrest⟩ := h
    cases hx : xs.toList.drop i with
    | nil => rw [hx] at h1; cases ds <;> cases k <;> simp [eqCells, All2] at he h1
    | cons x xr =>
    cases hy : ys.toList.drop i with
    | nil => rw [hy] at h2; cases ds' <;> cases k <;> cases ds <;> simp [eqCells, All2] at he h2
    | cons y yr =>
    rw [hx] at h1; rw [hy] at h2
    cases ds with
    | nil => simp [All2] at h1
    | cons d ds =>
    cases ds' with
    | nil => simp [All2] at h2
    | cons d' ds' =>
    obtain ⟨h1a, h1b⟩ := h1
    obtain ⟨h2a, h2b⟩ := h2
    have hxi : xs[i]? = some x := by
      have := congrArg (·[0]?) hx; simpa using this
    have hyi : ys[i]? = some y := by
      have := congrArg (·[0]?) hy; simpa using this
    have hxr : xs.toList.drop (i + 1) = xr := by
      have := congrArg (List.drop 1) hx; simpa [List.drop_drop, Nat.add_comm] using this
    have hyr : ys.toList.drop (i + 1) = yr := by
      have := congrArg (List.drop 1) hy; simpa [List.drop_drop, Nat.add_comm] using this
    subst ho
    have hpx := run_part_scal (P := P) (w := w) hsc hxi
    have hpy := run_part_scal (P := P) (w := w) hsc hyi
    have fin : ∀ (r : Bool), (Op.equalIn 9999 f.type x y).run P w = .ok r w → (∀ b', eqCells ks ds ds' = some b' → b = (r && b')) → (eqCells ks ds ds').isSome → (Op.eqFields 9999 xs ys (f :: fs)).run P w = .ok b w := by
      intro r hr hb hsome
      obtain ⟨b', hb'⟩ := Option.isSome_iff_exists.mp hsome
      have ih := run_eqFields ks fs (f.offset + 1) ds ds' b' hrest (by rw [hxr]; exact h1b) (by rw [hyr]; exact h2b) hb'
      have := hb b' hb'
      subst this
      cases r <;> simp [Op.eqFields, hn, hpx, hpy, hr, ih]
    split at hk
    · rename_i ki hu
      cases d <;> cases d' <;> simp only [eqCells, reduceCtorEq] at he
      rename_i k1 n1 k2 n2
      split at he
      case isFalse => simp at he
      rename_i hkk; subst hkk
      simp only [Rep] at h1a h2a
      subst h1a h2a
      refine fin (n1 == n2) (run_equalIn_int w 9998 f.type k1 ki n1 n2 hu) (fun b' hb' => ?_) (by cases hq : eqCells ks ds ds' <;> simp_all)
      rw [hb'] at he; simpa using he.symm
    · rename_i hu
      cases d <;> cases d' <;> simp only [eqCells, reduceCtorEq] at he
      rename_i n1 n2
      simp only [Rep] at h1a h2a
      subst h1a h2a
      refine fin (n1 == n2) ?_ (fun b' hb' => ?_) (by cases hq : eqCells ks ds ds' <;> simp_all)
      · have := run_equalIn_string (P := P) w 9998 f.type ⟨⟨n1⟩⟩ ⟨⟨n2⟩⟩ hu
        rw [this]; congr 1
        rw [ByteArray.toList_eq, ByteArray.toList_eq]
      · rw [hb'] at he; simpa using he.symm
    · rename_i hu
      cases d <;> cases d' <;> simp only [eqCells, reduceCtorEq] at he
      rename_i n1 n2
      simp only [Rep] at h1a h2a
      subst h1a h2a
      refine fin (n1 == n2) (run_equalIn_bool' w 9998 f.type n1 n2 hu) (fun b' hb' => ?_) (by cases hq : eqCells ks ds ds' <;> simp_all)
      rw [hb'] at he; simpa using he.symm
    · exact (Bool.false_ne_true hk).elim
theorem gives_eqa {op : BinOp} {t t' : TypeId} {y z : Operand} {ks : List FK} {neg : Bool} {x u : X} {s : Slot} (h : InvO ok N B w0 E a w) (hc : chk P (.binOp op t y z t') (.eqa ks neg x u) = true)
    (he : ev E (.eqa ks neg x u) = some s) : Gives P ok B E a w (.binOp op t y z t') s := by
  simp only [chk, Bool.and_eq_true, decide_eq_true_eq, Bool.not_eq_true'] at hc
  obtain ⟨⟨⟨⟨⟨rfl, hm⟩, hm'⟩, hg⟩, hst⟩, hu⟩ := hc
  split at hu
  case h_2 => exact (Bool.false_ne_true hu).elim
  rename_i fs hu'
  have hs := mx_ok h hm
  have hs' := mx_ok h hm'
  intro d ty pos af gd
  simp only [ev] at he
  split at he
  case h_2 => simp at he
  rename_i ds ds' hv hv'
  rw [hv] at hs
  rw [hv'] at hs'
  cases hb : eqCells ks ds ds' with
  | none => simp [hb] at he
  | some b =>
    rw [hb] at he
    simp only [Option.map_some, Option.some.injEq] at he; subst he
    obtain ⟨cs, hy, h1⟩ := hs
    obtain ⟨cs', hz, h2⟩ := hs'
    have hf : P.fieldsOf t = fs := by simp [Program.fieldsOf, hu']
    have hr := run_eqFields (P := P) (w := w) ks fs.toList 0 ds ds' b hu (by simpa using h1) (by simpa using h2) hb
    have hst' := run_equalIn_struct (P := P) w 9999 t cs cs' (by rw [hf]; exact hu') hst
    rw [hf, hr] at hst'
    cases neg
    · refine ⟨.bool b, ?_, by simp [SlotOK, Rep]⟩
      simp [execOp, hy, hz, run_eqGuard_agg w _ _ _ _ _ _ hg, run_eql_struct, hst']
    · refine ⟨.bool (!b), ?_, by simp [SlotOK, Rep]⟩
      simp [execOp, hy, hz, run_eqGuard_agg w _ _ _ _ _ _ hg, run_neq_struct, hst']
theorem extract_mk (l : List UInt8) (i j : Nat) : (ByteArray.mk ⟨l⟩).extract i j = ByteArray.mk ⟨(l.take j).drop i⟩ := by
  cases hb : (ByteArray.mk ⟨l⟩).extract i j with
  | mk d =>
    have hd : ((ByteArray.mk ⟨l⟩).extract i j).data = (⟨l⟩ : Array UInt8).extract i j := by simp
    rw [hb] at hd
    simp only at hd
    subst hd
    congr 1
    apply Array.toList_inj.1
    simp [List.drop_take]
theorem bnd_ok {y : Option Operand} {x : Option X} {dflt : Nat} {k : Int} (h : InvO ok N B w0 E a w) (hm : mxo y x = true) (hb : bnd E x dflt = some k) :
    (y = none ∧ k = dflt) ∨ ∃ o ki, y = some o ∧ a.eval o = .int ki k := by
  cases y with
  | none =>
    cases x with
    | none => simp [bnd] at hb; exact .inl ⟨rfl, hb.symm⟩
    | some x => simp [mxo] at hm
  | some o =>
    cases x with
    | none => simp [mxo] at hm
    | some x =>
      obtain ⟨ki, hk, _⟩ := vInt_ok h hm hb
      exact .inr ⟨o, ki, rfl, hk⟩
theorem gives_ssub {t : TypeId} {y : Operand} {lo hi : Option Operand} {x : X} {lo' hi' : Option X} {s : Slot} (h : InvO ok N B w0 E a w) (hc : chk P (.slice t y lo hi none) (.ssub x lo' hi') = true)
    (he : ev E (.ssub x lo' hi') = some s) : Gives P ok B E a w (.slice t y lo hi none) s := by
  simp only [chk, Bool.and_eq_true] at hc
  obtain ⟨⟨⟨hm, hml⟩, hmh⟩, hu⟩ := hc
  split at hu
  case h_2 => exact (Bool.false_ne_true hu).elim
  rename_i hu'
  intro d ty pos af gd
  simp only [ev] at he
  cases hl : vStr E x with
  | none => simp [hl] at he
  | some l =>
  rw [hl] at he
  dsimp only at he
  split at he
  case h_2 => simp at he
  rename_i i j hi1 hj1
  split at he
  case isFalse => simp at he
  rename_i hb
  obtain ⟨h0, h1, h2⟩ := hb
  simp only [Option.some.injEq] at he; subst he
  have e := vStr_ok h hm hl
  have hsz : (ByteArray.mk ⟨l⟩).size = l.length := rfl
  refine ⟨.string (ByteArray.mk ⟨(l.take j.toNat).drop i.toNat⟩), ?_, by simp [SlotOK, Rep]⟩
  have hj2 : (j.toNat : Int) = j := by omega
  rcases bnd_ok h hml hi1 with ⟨rfl, hi2⟩ | ⟨o, ki, rfl, ho⟩ <;> rcases bnd_ok h hmh hj1 with ⟨rfl, hj3⟩ | ⟨o', ki', rfl, ho'⟩
  · have : j.toNat = l.length := by omega
    have hi0 : i.toNat = 0 := by omega
    simp [execOp, e, Instr.sliceAt, Instr.slice, run_underlying hu', Instr.sliceBounds, hsz, extract_mk, this, hi0]
  · have hi0 : i.toNat = 0 := by omega
    simp [execOp, e, ho', Instr.sliceAt, Instr.slice, run_underlying hu', Instr.sliceBounds, Instr.sliceBound, asIntOf, hsz, extract_mk, hi0, h2, (by omega : 0 ≤ j)]
  · have : j.toNat = l.length := by omega
    simp [execOp, e, ho, Instr.sliceAt, Instr.slice, run_underlying hu', Instr.sliceBounds, Instr.sliceBound, asIntOf, hsz, extract_mk, this, h0, (by omega : i ≤ l.length)]
  · simp [execOp, e, ho, ho', Instr.sliceAt, Instr.slice, run_underlying hu', Instr.sliceBounds, Instr.sliceBound, asIntOf, hsz, extract_mk, h0, h2, (by omega : 0 ≤ j), hj2, h1]
theorem repRows_drop {sz b : Nat} : ∀ (es : List (List DV)) (o i : Nat), RepRows ok w sz b es o → RepRows ok w sz b (es.drop i) (o + i * sz)
  | es, o, 0, h => by simpa using h
  | [], o, i + 1, _ => by simp [RepRows]
  | r :: rs, o, i + 1, h => by
    simp only [RepRows] at h
    have := repRows_drop rs (o + sz) i h.2.2
    rw [show o + sz + i * sz = o + (i + 1) * sz by rw [Nat.add_mul]; omega] at this
    simpa using this
theorem repRows_take {sz b : Nat} : ∀ (es : List (List DV)) (o i : Nat), RepRows ok w sz b es o → RepRows ok w sz b (es.take i) o
  | es, o, 0, h => by simp [RepRows]
  | [], o, i + 1, _ => by simp [RepRows]
  | r :: rs, o, i + 1, h => by
    simp only [RepRows] at h
    simpa [RepRows] using ⟨h.1, h.2.1, repRows_take rs (o + sz) i h.2.2⟩
theorem rep_sl_cut {sz i j : Nat} {es : List (List DV)} {v : Value} (hr : Rep ok w (.sl sz es) v) (hij : i ≤ j) (hj : j ≤ es.length) :
    ∃ ad cap, v = .slice ad es.length cap ∧ es.length ≤ cap ∧ ∀ cap', j - i ≤ cap' → Rep ok w (.sl sz ((es.take j).drop i)) (.slice (ad.map (·.add (i * sz))) (j - i) cap') ∧
      (i = 0 ∨ i = j → Rep ok w (.sl sz ((es.take j).drop i)) (.slice ad (j - i) cap')) := by
  simp only [Rep] at hr
  obtain ⟨ad, cap, hv, hc, hr⟩ := hr
  have hlen : ((es.take j).drop i).length = j - i := by simp; omega
  refine ⟨ad, cap, hv, hc, fun cap' hc' => ⟨?_, fun hi => ?_⟩⟩
  · simp only [Rep]
    refine ⟨_, cap', by rw [hlen], by rw [hlen]; exact hc', ?_⟩
    rcases hr with rfl | ⟨b, o, rfl, hb, hr⟩
    · left; simp
    · right
      exact ⟨b, o + i * sz, by simp [addr_add], hb, repRows_drop _ o i (repRows_take es o j hr)⟩
  · simp only [Rep]
    refine ⟨_, cap', by rw [hlen], by rw [hlen]; exact hc', ?_⟩
    rcases hi with rfl | rfl
    · rcases hr with rfl | ⟨b, o, rfl, hb, hr⟩
      · left; simp
      · right
        exact ⟨b, o, rfl, hb, by simpa using repRows_take es o j hr⟩
    · left; simp
theorem gives_ssl {t : TypeId} {y : Operand} {lo hi : Option Operand} {sz : Nat} {x : X} {lo' hi' : Option X} {s : Slot} (h : InvO ok N B w0 E a w) (hc : chk P (.slice t y lo hi none) (.ssl sz x lo' hi') = true)
    (he : ev E (.ssl sz x lo' hi') = some s) : Gives P ok B E a w (.slice t y lo hi none) s := by
  simp only [chk, Bool.and_eq_true] at hc
  obtain ⟨⟨⟨hm, hml⟩, hmh⟩, hu⟩ := hc
  split at hu
  case h_2 => exact (Bool.false_ne_true hu).elim
  rename_i el hel
  have hu' := elemT_some hel
  have hsz : szT P el = some sz := by simpa using hu
  intro d ty pos af gd
  simp only [ev] at he
  split at he
  case h_2 => simp at he
  rename_i sz' es hv
  split at he
  case h_2 => simp at he
  rename_i i j hi1 hj1
  split at he
  case isFalse => simp at he
  rename_i hb
  obtain ⟨rfl, h0, h1, h2⟩ := hb
  simp only [Option.some.injEq] at he; subst he
  have hs := mx_ok h hm
  rw [hv] at hs
  unfold szT at hsz
  cases hie : P.info? el with
  | none => simp [hie] at hsz
  | some ie =>
  have hse : ie.size = sz' := by simpa [hie] using hsz
  obtain ⟨ad, cap, hy, hlc', hcut⟩ := rep_sl_cut (i := i.toNat) (j := j.toNat) hs (by omega) (by omega)
  have hj2 : (j.toNat : Int) = j := by omega
  have hjc : j ≤ (cap : Int) := by omega
  have hm0 : (0 : Int) ≤ j := by omega
  have key : (execOp a.eval { dst := d, op := .slice t y lo hi none, type := ty, pos := pos, after := af, guard := gd }).run P w =
      .ok (.value (.slice (if cap = i.toNat then ad else ad.map (·.add (i.toNat * sz'))) (j.toNat - i.toNat) (cap - i.toNat))) w := by
    rcases bnd_ok h hml hi1 with ⟨rfl, hi2⟩ | ⟨o, ki, rfl, ho⟩ <;> rcases bnd_ok h hmh hj1 with ⟨rfl, hj3⟩ | ⟨o', ki', rfl, ho'⟩
    · have e1 : j.toNat = es.length := by omega
      have e2 : i.toNat = 0 := by omega
      simp [execOp, hy, Instr.sliceAt, Instr.slice, run_underlying hu', Instr.sliceBounds, sizeOf, typeInfo, hie, hse, e1, e2]
    · have e2 : i.toNat = 0 := by omega
      simp [execOp, hy, ho', Instr.sliceAt, Instr.slice, run_underlying hu', Instr.sliceBounds, Instr.sliceBound, asIntOf, sizeOf, typeInfo, hie, hse, e2, hjc, hm0]
    · have e1 : j.toNat = es.length := by omega
      simp [execOp, hy, ho, Instr.sliceAt, Instr.slice, run_underlying hu', Instr.sliceBounds, Instr.sliceBound, asIntOf, sizeOf, typeInfo, hie, hse, e1, h0, (by omega : i ≤ es.length)]
    · simp [execOp, hy, ho, ho', Instr.sliceAt, Instr.slice, run_underlying hu', Instr.sliceBounds, Instr.sliceBound, asIntOf, sizeOf, typeInfo, hie, hse, h0, hjc, hm0, hj2, h1]
  refine ⟨_, key, ?_⟩
  obtain ⟨h3, h4⟩ := hcut (cap - i.toNat) (by omega)
  split
  · rename_i e
    exact h4 (by omega)
  · exact h3
end
end Go.Rd

namespace Go.Rd
open Go.RowKit
theorem fold_lay (off : Nat) : ∀ (l : List Value) (k : Nat) (cells : Array Value), off + k + l.length ≤ cells.size →
    ((l.zipIdx k).foldl (fun (cs : Array Value) (x : Value × Nat) => cs.setIfInBounds (off + x.2) x.1) cells).toList = cells.toList.take (off + k) ++ l ++ cells.toList.drop (off + k + l.length)
  | [], k, cells, h => by simp
  | v :: l, k, cells, h => by
    simp only [List.zipIdx_cons, List.foldl_cons]
    have hlt : off + k < cells.size := by simp at h; omega
    rw [fold_lay off l (k + 1) _ (by simp at h ⊢; omega)]
    have hs : (cells.setIfInBounds (off + k) v).toList = cells.toList.take (off + k) ++ v :: cells.toList.drop (off + k + 1) := by
      rw [Array.toList_setIfInBounds, List.set_eq_take_append_cons_drop, if_pos (by simpa using hlt)]
    rw [hs]
    have hl : (cells.toList.take (off + k)).length = off + k := by simp; omega
    rw [show off + (k + 1) = off + k + 1 by omega]
    generalize hA : cells.toList.take (off + k) = A at hl ⊢
    have h1 : (A ++ v :: cells.toList.drop (off + k + 1)).take (off + k + 1) = A ++ [v] := by
      rw [← hl, List.take_length_add_append]; simp
    have h2 : (A ++ v :: cells.toList.drop (off + k + 1)).drop (off + k + 1 + l.length) = cells.toList.drop (off + k + (v :: l).length) := by
      rw [show off + k + 1 + l.length = A.length + (1 + l.length) by omega, List.drop_length_add_append]
      rw [Nat.add_comm 1, List.drop_succ_cons, List.drop_drop]
      congr 1; simp; omega
    rw [h1, h2]; simp
theorem fill_step (place : Nat → Option (Nat × Nat)) (cells : Array Value) (i : Nat) (v : Value) (rest : List (Nat × Value)) (off size : Nat) (hp : place i = some (off, size))
    (hv : v.cells.size = size) (hs : off + size ≤ cells.size) :
    ∃ cells', Instr.fill place cells ((i, v) :: rest) = Instr.fill place cells' rest ∧ cells'.toList = cells.toList.take off ++ v.cells.toList ++ cells.toList.drop (off + size) := by
  refine ⟨v.cells.zipIdx.foldl (fun cs (c, j) => cs.setIfInBounds (off + j) c) cells, ?_, ?_⟩
  · have h1 : ¬ (v.cells.size ≠ size) := by simp [hv]
    have h2 : ¬ (off + v.cells.size > cells.size) := by omega
    simp only [Instr.fill, hp]
    rw [if_neg]
    simp only [Bool.or_eq_true, decide_eq_true_eq, not_or]
    exact ⟨h1, h2⟩
  · rw [← Array.foldl_toList, Array.toList_zipIdx]
    have := fold_lay off v.cells.toList 0 cells (by simp; omega)
    simpa [hv] using this
section
variable {P : Program} {ok : Nat → Prop} {N : Nat} {B : Bd} {w0 : World} {E : Env} {a : Act} {w : World}
def partsOk (P : Program) (fs : Array Field) : List (Nat × Operand) → List (Nat × Nat × X) → Bool
  | [], [] => true
  | (i, y) :: ps, (off, sz, x) :: qs => mx y x && (match fs[i]? with
      | some f => f.offset == off && szT P f.type == some sz
      | none => false) && partsOk P fs ps qs
  | _, _ => false
def dvEq : DV → Value → Bool
  | .bool b, .bool b' => b == b'
  | .int k n, .int k' n' => decide (k = k') && n == n'
  | .str l, .string s => s.data.toList == l
  | .sl _ [], .slice none 0 0 => true
  | .val .nilFunc, .nilFunc => true
  | _, _ => false
def dvsEq : List DV → List Value → Bool
  | [], [] => true
  | d :: ds, v :: vs => dvEq d v && dvsEq ds vs
  | _, _ => false
theorem dvEq_ok {d : DV} {v : Value} (h : dvEq d v = true) : Rep ok w d v := by
  unfold dvEq at h
  split at h
  · have e := by simpa using h
    subst e; simp [Rep]
  · obtain ⟨rfl, rfl⟩ : _ ∧ _ := by simpa using h
    simp [Rep]
  · have e := by simpa using h
    subst e; simp [Rep]
  · simp [Rep]
  · simp only [Rep]; exact ⟨trivial, rfl, rfl⟩
  · exact (Bool.false_ne_true h).elim
theorem dvsEq_ok : ∀ {ds : List DV} {vs : List Value}, dvsEq ds vs = true → All2 (Rep ok w) ds vs
  | [], [], _ => trivial
  | d :: ds, v :: vs, h => by
    simp only [dvsEq, Bool.and_eq_true] at h
    exact ⟨dvEq_ok h.1, dvsEq_ok h.2⟩
  | [], _ :: _, h => by simp [dvsEq] at h
  | _ :: _, [], h => by simp [dvsEq] at h
def chkBld (P : Program) (t : TypeId) (parts : List (Nat × Operand)) (zero : List DV) (ps : List (Nat × Nat × X)) : Bool :=
  match P.info? t, P.underlying t with
  | some it, some (.struct fs) => (match it.zero with | some z => dvsEq zero z.cells.toList | none => false) && fs.toList.all (fun f => (P.info? f.type).isSome) && partsOk P fs parts ps
  | _, _ => false
theorem layParts_ok (h : InvO ok N B w0 E a w) {fs : Array Field} {places : List (Nat × Nat)} (hpl : ∀ (i : Nat) (f : Field), fs[i]? = some f → ∃ sz, szT P f.type = some sz ∧ places.toArray[i]? = some (f.offset, sz)) :
    ∀ (parts : List (Nat × Operand)) (ps : List (Nat × Nat × X)) (cs : List DV) (cells : Array Value) (ds : List DV), partsOk P fs parts ps = true → All2 (Rep ok w) cs cells.toList →
      layParts E cs ps = some ds → ∃ cells', Instr.fill (places.toArray[·]?) cells (parts.map fun x => (x.1, a.eval x.2)) = some cells' ∧ All2 (Rep ok w) ds cells'.toList
  | [], [], cs, cells, ds, _, hr, hl => by
    simp only [layParts, Option.some.injEq] at hl; subst hl
    exact ⟨cells, by simp [Instr.fill], hr⟩
  | [], _ :: _, _, _, _, hp, _, _ => by simp [partsOk] at hp
  | _ :: _, [], _, _, _, hp, _, _ => by simp [partsOk] at hp
  | (i, y) :: parts, (off, sz, x) :: ps, cs, cells, ds, hp, hr, hl => by
    simp only [partsOk, Bool.and_eq_true] at hp
    obtain ⟨⟨hm, hf⟩, hp⟩ := hp
    split at hf
    case h_2 => exact (Bool.false_ne_true hf).elim
    rename_i f hfi
    simp only [Bool.and_eq_true, beq_iff_eq] at hf
    obtain ⟨rfl, hsz⟩ := hf
    obtain ⟨sz', hsz', hpl'⟩ := hpl i f hfi
    have e : sz' = sz := by rw [hsz] at hsz'; simpa using hsz'.symm
    subst e
    have hs := mx_ok h hm
    have hlen := hr.length
    simp only [layParts] at hl
    split at hl
    · rename_i d hv
      rw [hv] at hs
      split at hl
      case isFalse => simp at hl
      rename_i hb
      obtain ⟨rfl, hb⟩ := hb
      have hc1 : (a.eval y).cells = #[a.eval y] := by
        exact rep_cells hs
      have hle : f.offset + 1 ≤ cells.size := by simp at hlen; omega
      obtain ⟨cells', h1, h2⟩ := fill_step (places.toArray[·]?) cells i (a.eval y) (parts.map fun x => (x.1, a.eval x.2)) f.offset 1 hpl' (by simp [hc1]) hle
      rw [hc1] at h2
      obtain ⟨c2, h3, h4⟩ := layParts_ok h hpl parts ps (cs.set f.offset d) cells' ds hp (by
        rw [h2, List.set_eq_take_append_cons_drop, if_pos hb]
        have := All2.append _ _ _ _ (hr.take f.offset) (show All2 (Rep ok w) (d :: cs.drop (f.offset + 1)) (a.eval y :: cells.toList.drop (f.offset + 1)) from ⟨hs, hr.drop _⟩)
        simpa using this) hl
      exact ⟨c2, by rw [List.map_cons]; exact h1.trans h3, h4⟩
    · rename_i dd hv
      rw [hv] at hs
      split at hl
      case isFalse => simp at hl
      rename_i hb
      obtain ⟨rfl, hb⟩ := hb
      obtain ⟨us, hy, hu⟩ := hs
      have hul := hu.length
      have hle : f.offset + dd.length ≤ cells.size := by simp at hlen; omega
      obtain ⟨cells', h1, h2⟩ := fill_step (places.toArray[·]?) cells i (a.eval y) (parts.map fun x => (x.1, a.eval x.2)) f.offset dd.length hpl' (by rw [hy]; simpa [Value.cells] using hul.symm) hle
      rw [hy] at h2
      obtain ⟨c2, h3, h4⟩ := layParts_ok h hpl parts ps _ cells' ds hp (by
        rw [h2]
        exact All2.append _ _ _ _ (All2.append _ _ _ _ (hr.take _) (by simpa [Value.cells] using hu)) (hr.drop _)) hl
      exact ⟨c2, by rw [List.map_cons]; exact h1.trans h3, h4⟩
    · simp at hl
theorem mapM_places {P : Program} : ∀ (l : List Field), (∀ f ∈ l, (P.info? f.type).isSome) →
    ∃ places, l.mapM (fun f => (P.info? f.type).map fun i => (f.offset, i.size)) = some places ∧ ∀ (i : Nat) (f : Field), l[i]? = some f → ∃ sz, szT P f.type = some sz ∧ places[i]? = some (f.offset, sz)
  | [], _ => ⟨[], by simp, by simp⟩
  | f :: l, h => by
    obtain ⟨it, hit⟩ := Option.isSome_iff_exists.mp (h f (by simp))
    obtain ⟨places, h1, h2⟩ := mapM_places l (fun g hg => h g (by simp [hg]))
    refine ⟨(f.offset, it.size) :: places, by simp [List.mapM_cons, hit, h1], fun i g hg => ?_⟩
    cases i with
    | zero => simp at hg; subst hg; exact ⟨it.size, by simp [szT, hit], by simp⟩
    | succ i => simpa using h2 i g (by simpa using hg)
theorem gives_bld {t : TypeId} {parts : Array (Nat × Operand)} {zero : List DV} {ps : List (Nat × Nat × X)} {s : Slot} (h : InvO ok N B w0 E a w) (hc : chkBld P t parts.toList zero ps = true)
    (he : ev E (.bld zero ps) = some s) : Gives P ok B E a w (.build t parts) s := by
  unfold chkBld at hc
  split at hc
  case h_2 => exact (Bool.false_ne_true hc).elim
  rename_i it fs hit hu
  simp only [Bool.and_eq_true] at hc
  obtain ⟨⟨hz, hall⟩, hp⟩ := hc
  split at hz
  case h_2 => exact (Bool.false_ne_true hz).elim
  rename_i z hzz
  intro d ty pos af gd
  simp only [ev] at he
  cases hl : layParts E zero ps with
  | none => simp [hl] at he
  | some ds =>
    rw [hl] at he
    simp only [Option.map_some, Option.some.injEq] at he; subst he
    obtain ⟨places, h1, h2⟩ := mapM_places (P := P) fs.toList (List.all_eq_true.1 hall)
    obtain ⟨cells', h3, h4⟩ := layParts_ok (P := P) h (fs := fs) (places := places) (fun i f hf => by simpa using h2 i f (by simpa using hf)) parts.toList ps zero z.cells ds hp (dvsEq_ok hz) hl
    have hb : P.built t (parts.map fun (i, x) => (i, a.eval x)).toList = some cells' := by
      simp only [Program.built, hit, hu, hzz, h1, Array.toList_map]
      exact h3
    refine ⟨.agg cells', ?_, cells', rfl, h4⟩
    simp [execOp, run_build w t _ cells' hb]
end
end Go.Rd

namespace Go.Rd
open Go.RowKit
section
variable {P : Program} {ok : Nat → Prop} {N : Nat} {B : Bd} {w0 : World} {E : Env} {a : Act} {w : World}
theorem row_of_flat {b : Nat} : ∀ (ds : List DV) (o : Nat) (vs : List Value), All2 (Rep ok w) ds vs → (∀ j v, vs[j]? = some v → w.cell? ⟨b, o + j, none⟩ = some v) → RepRow ok w b ds o
  | [], _, _, _, _ => by simp [RepRow]
  | d :: ds, o, [], h, _ => h.elim
  | d :: ds, o, v :: vs, h, hc => by
    simp only [RepRow]
    refine ⟨⟨v, by simpa using hc 0 v (by simp), h.1⟩, row_of_flat ds (o + 1) vs h.2 (fun j u hu => ?_)⟩
    have := hc (j + 1) u (by simpa using hu)
    rwa [show o + (j + 1) = o + 1 + j by omega] at this
theorem All2.split {α β : Type} {R : α → β → Prop} : ∀ (as : List α) (cs : List α) (bs : List β), All2 R (as ++ cs) bs → All2 R as (bs.take as.length) ∧ All2 R cs (bs.drop as.length)
  | [], cs, bs, h => ⟨by simp [All2], by simpa using h⟩
  | a :: as, cs, [], h => by simp [All2] at h
  | a :: as, cs, b :: bs, h => by
    have := All2.split as cs bs h.2
    exact ⟨⟨h.1, this.1⟩, by simpa using this.2⟩
theorem rows_of_flat {sz b : Nat} : ∀ (es : List (List DV)) (o : Nat) (vs : List Value), (∀ r ∈ es, r.length = sz) → All2 (Rep ok w) es.flatten vs → (∀ j v, vs[j]? = some v → w.cell? ⟨b, o + j, none⟩ = some v) → RepRows ok w sz b es o
  | [], _, _, _, _, _ => by simp [RepRows]
  | r :: rs, o, vs, hl, h, hc => by
    have hr := hl r (by simp)
    simp only [List.flatten_cons] at h
    obtain ⟨h1, h2⟩ := h.split
    simp only [RepRows]
    refine ⟨hr, row_of_flat r o _ h1 (fun j v hj => ?_), rows_of_flat rs (o + sz) _ (fun r h => hl r (by simp [h])) h2 (fun j v hj => ?_)⟩
    · rw [List.getElem?_take] at hj
      split at hj
      · exact hc j v hj
      · simp at hj
    · rw [List.getElem?_drop, hr] at hj
      have := hc _ v hj
      rwa [show o + (sz + j) = o + sz + j by omega] at this
theorem own_rep {B0 e sz : Nat} {es : List (List DV)} {v : Value} (h : OwnRep B0 ok w e sz es v) {ok' : Nat → Prop} (h1 : ∀ b, ok b → ok' b) (h2 : ∀ b, ownBlk v = some b → ok' b) :
    Rep ok' w (.sl sz es) v := by
  have hm : Keeps ok ok' w w := fun b hb => ⟨h1 b hb, fun _ => rfl⟩
  have hl := h.1
  simp only [Rep]
  rcases own_val h with ⟨rfl, rfl⟩ | ⟨g, cap, cur, rfl, hb, hg, hc, hs, hn, hr⟩
  · exact ⟨none, 0, rfl, Nat.le_refl _, .inl rfl⟩
  · refine ⟨_, cap, rfl, hc, .inr ⟨g, 0, rfl, h2 g rfl, ?_⟩⟩
    refine rows_of_flat es 0 _ hl (hr.mono (fun d v => Rep.mono hm d v)) (fun j v hj => ?_)
    rw [cell_off hg]
    rw [List.getElem?_take] at hj
    split at hj
    · simpa using hj
    · simp at hj
def rowsOk : List (Nat × Operand) → List X → Nat → Bool
  | [], [], _ => true
  | (i, y) :: ps, x :: xs, k => i == k && mx y x && rowsOk ps xs (k + 1)
  | _, _, _ => false
def chkBsl (P : Program) (t : TypeId) (n : Nat) (parts : List (Nat × Operand)) (e sz : Nat) (rows : List X) : Bool :=
  (match P.underlying t with | some (.slice e') => e' == e | _ => false) && (match P.info? e with | some i => i.size == sz && i.zero.isSome | none => false) &&
    decide (0 < sz) && decide (n * sz ≤ 16777216) && rows.length == n && rowsOk parts rows 0
theorem layRows_len {E : Env} {sz : Nat} : ∀ (xs : List X) (es : List (List DV)), layRows E sz xs = some es → es.length = xs.length ∧ ∀ r ∈ es, r.length = sz
  | [], es, h => by simp [layRows] at h; subst h; simp
  | x :: xs, es, h => by
    simp only [layRows] at h
    split at h
    · split at h
      case isFalse => simp at h
      rename_i hsz
      cases hl : layRows E sz xs with
      | none => simp [hl] at h
      | some es' =>
        simp only [hl, Option.map_some, Option.some.injEq] at h; subst h
        obtain ⟨h1, h2⟩ := layRows_len xs es' hl
        refine ⟨by simp [h1], ?_⟩
        intro r hr
        rcases List.mem_cons.1 hr with rfl | hr
        · simp [hsz]
        · exact h2 r hr
    · split at h
      case isFalse => simp at h
      rename_i hsz
      cases hl : layRows E sz xs with
      | none => simp [hl] at h
      | some es' =>
        simp only [hl, Option.map_some, Option.some.injEq] at h; subst h
        obtain ⟨h1, h2⟩ := layRows_len xs es' hl
        refine ⟨by simp [h1], ?_⟩
        intro r hr
        rcases List.mem_cons.1 hr with rfl | hr
        · exact hsz
        · exact h2 r hr
    · simp at h
theorem fill_rows (h : InvO ok N B w0 E a w) {sz n : Nat} : ∀ (parts : List (Nat × Operand)) (xs : List X) (i : Nat) (cells : Array Value) (pre : List DV) (es : List (List DV)),
    rowsOk parts xs i = true → layRows E sz xs = some es → cells.size = n * sz → i + xs.length = n → All2 (Rep ok w) pre (cells.toList.take (i * sz)) →
    ∃ cells', Instr.fill (fun i => some (i * sz, sz)) cells (parts.map fun x => (x.1, a.eval x.2)) = some cells' ∧ All2 (Rep ok w) (pre ++ es.flatten) cells'.toList ∧ cells'.size = n * sz
  | [], [], i, cells, pre, es, _, hl, hc, hi, hp => by
    simp [layRows] at hl; subst hl
    simp at hi; subst hi
    refine ⟨cells, by simp [Instr.fill], ?_, hc⟩
    rw [List.take_of_length_le (by simp [hc])] at hp
    simpa using hp
  | [], _ :: _, _, _, _, _, hr, _, _, _, _ => by simp [rowsOk] at hr
  | _ :: _, [], _, _, _, _, hr, _, _, _, _ => by simp [rowsOk] at hr
  | (i', y) :: parts, x :: xs, i, cells, pre, es, hr, hl, hc, hi, hp => by
    simp only [rowsOk, Bool.and_eq_true, beq_iff_eq] at hr
    obtain ⟨⟨rfl, hm⟩, hr⟩ := hr
    have hs := mx_ok h hm
    have hn : i' + 1 ≤ n := by simp at hi; omega
    have hle : i' * sz + sz ≤ cells.size := by
      rw [hc]; have := Nat.mul_le_mul_right sz hn; rw [Nat.add_mul, Nat.one_mul] at this; exact this
    have hpl := hp.length
    have step : ∀ (ds : List DV) (es' : List (List DV)), ds.length = sz → layRows E sz xs = some es' → es = ds :: es' → (a.eval y).cells.size = sz → All2 (Rep ok w) ds (a.eval y).cells.toList →
        ∃ cells', Instr.fill (fun i => some (i * sz, sz)) cells (((i', y) :: parts).map fun x => (x.1, a.eval x.2)) = some cells' ∧ All2 (Rep ok w) (pre ++ es.flatten) cells'.toList ∧ cells'.size = n * sz := by
      intro ds es' hds hl' hes hcs hall
      subst hes
      obtain ⟨cells', h1, h2⟩ := fill_step (fun i => some (i * sz, sz)) cells i' (a.eval y) (parts.map fun x => (x.1, a.eval x.2)) (i' * sz) sz rfl hcs hle
      have hsz2 : cells'.size = n * sz := by
        have := congrArg List.length h2
        simp [hcs] at this; omega
      have htk : (cells.toList.take (i' * sz)).length = i' * sz := by simp; omega
      have htake : cells'.toList.take ((i' + 1) * sz) = cells.toList.take (i' * sz) ++ (a.eval y).cells.toList := by
        rw [h2, List.take_append_of_le_length]
        · rw [List.take_of_length_le]
          simp [hcs, Nat.add_mul]; omega
        · simp [hcs, Nat.add_mul]; omega
      obtain ⟨c2, h3, h4, h5⟩ := fill_rows h parts xs (i' + 1) cells' (pre ++ ds) es' hr hl' hsz2 (by simp at hi; omega) (by rw [htake]; exact All2.append _ _ _ _ hp hall)
      exact ⟨c2, by rw [List.map_cons]; exact h1.trans h3, by simpa using h4, h5⟩
    simp only [layRows] at hl
    split at hl
    · rename_i d hv
      rw [hv] at hs
      split at hl
      case isFalse => simp at hl
      rename_i hsz
      cases hl' : layRows E sz xs with
      | none => simp [hl'] at hl
      | some es' =>
        simp only [hl', Option.map_some, Option.some.injEq] at hl
        have hc1 : (a.eval y).cells = #[a.eval y] := by
          exact rep_cells hs
        exact step [d] es' (by simp [hsz]) hl' hl.symm (by simp [hc1, hsz]) (by rw [hc1]; exact ⟨hs, trivial⟩)
    · rename_i dd hv
      rw [hv] at hs
      split at hl
      case isFalse => simp at hl
      rename_i hsz
      cases hl' : layRows E sz xs with
      | none => simp [hl'] at hl
      | some es' =>
        simp only [hl', Option.map_some, Option.some.injEq] at hl
        obtain ⟨us, hy, hu⟩ := hs
        have hul := hu.length
        exact step dd es' hsz hl' hl.symm (by rw [hy]; simp [Value.cells, ← hsz] at hul ⊢; exact hul.symm) (by rw [hy]; simpa [Value.cells] using hu)
    · simp at hl
theorem run_bsl (h : InvO ok N B w0 E a w) {t : TypeId} {n : Nat} {parts : Array (Nat × Operand)} {e sz : Nat} {rows : List X} {es : List (List DV)} (hc : chkBsl P t n parts.toList e sz rows = true)
    (hl : layRows E sz rows = some es) : ∃ cells : Array Value, (Instr.buildSlice t n (parts.map fun (i, x) => (i, a.eval x))).run P w = .ok (.slice (some ⟨w.heap.size, 0, none⟩) es.length es.length) (w.alloc (.cells cells e)) ∧
      All2 (Rep ok w) es.flatten cells.toList ∧ cells.size = es.length * sz ∧ (∀ r ∈ es, r.length = sz) := by
  simp only [chkBsl, Bool.and_eq_true, decide_eq_true_eq, beq_iff_eq] at hc
  obtain ⟨⟨⟨⟨⟨hu, hi⟩, hpos⟩, hbig⟩, hn⟩, hr⟩ := hc
  split at hu
  case h_2 => exact (Bool.false_ne_true hu).elim
  rename_i e' hu'
  have ee : e' = e := by simpa using hu
  subst ee
  split at hi
  case h_2 => exact (Bool.false_ne_true hi).elim
  rename_i ie hie
  simp only [Bool.and_eq_true, beq_iff_eq] at hi
  obtain ⟨hsz, hz⟩ := hi
  obtain ⟨z, hz⟩ := Option.isSome_iff_exists.mp hz
  obtain ⟨hel, her⟩ := layRows_len rows es hl
  subst hn
  rw [← hel] at hbig ⊢
  by_cases h0 : es.length * sz = 0
  · have he0 : es = [] := by
      rcases Nat.mul_eq_zero.1 h0 with h | h
      · exact List.eq_nil_of_length_eq_zero h
      · omega
    subst he0
    have hr0 : rows = [] := List.eq_nil_of_length_eq_zero (by simpa using hel.symm)
    subst hr0
    have hp0 : parts.toList = [] := by
      cases hp : parts.toList with
      | nil => rfl
      | cons p ps => rw [hp] at hr; simp [rowsOk] at hr
    have hp1 : parts = #[] := by simpa using hp0
    subst hp1
    exact ⟨#[], by simp [Instr.buildSlice, run_underlying hu', sizeOf, typeInfo, hie, Instr.fill, newRow]; congr 2; apply Array.eq_empty_of_size_eq_zero; simp, by simp [All2], by simp, by simp⟩
  · obtain ⟨cells', h1, h2, h3⟩ := fill_rows (sz := sz) (n := es.length) h parts.toList rows 0 ((Array.range (es.length * sz)).map (z.cells[· % z.cells.size]!)) [] es hr hl (by simp) (by simp [hel]) (by simp [All2])
    have := run_buildSlice (P := P) w t e' es.length (parts.map fun (i, x) => (i, a.eval x)) cells' ie z hu' hie hz (by rw [hsz]; omega) (by rw [hsz]; exact h0) (by rw [hsz]; rw [Array.toList_map]; exact h1)
    exact ⟨cells', this, by simpa using h2, h3, her⟩
def killRefs (n : Nat) : Env → Env
  | [] => []
  | (m, s) :: E => (m, if s.points n then .undef else s) :: killRefs n E
theorem get_kill (n : Nat) : ∀ (E : Env) (m : Nat), get (killRefs n E) m = if (get E m).points n then .undef else get E m
  | [], m => by simp [killRefs, get, Slot.points]
  | (k, s) :: E, m => by
    simp only [killRefs, get]
    split
    · rfl
    · exact get_kill n E m
theorem InvO.weaken (h : InvO ok N B w0 E a w) {E' : Env} (hE : ∀ n, get E' n = get E n ∨ get E' n = .undef)
    (hp : ∀ n m, get E' n = get E n → (get E n).points m = true → get E' m = get E m) : InvO ok N B w0 E' a w where
  size := h.size
  defers := h.defers
  below := h.below
  base := h.base
  okLt := h.okLt
  slot n := by
    rcases hE n with e | e
    · have hs := h.slot n
      have hp' := hp n
      rw [e]
      cases hg : get E n with
      | al m =>
        rw [hg] at hs hp'
        have := hp' m (by rw [e, hg]) (by simp [Slot.points])
        obtain ⟨h1, e', sz, bys, es, h2⟩ := hs
        exact ⟨h1, e', sz, bys, es, by rw [this]; exact h2⟩
      | ref m o =>
        rw [hg] at hs hp'
        have := hp' m (by rw [e, hg]) (by simp [Slot.points])
        obtain ⟨b, ds, h1, h2, h3⟩ := hs
        exact ⟨b, ds, h1, h2, by rw [this]; exact h3⟩
      | oel m i o =>
        rw [hg] at hs hp'
        have := hp' m (by rw [e, hg]) (by simp [Slot.points])
        obtain ⟨b, len, cap, e', sz, bys, es, h1, h2, h3, h4⟩ := hs
        exact ⟨b, len, cap, e', sz, bys, es, h1, h2, by rw [this]; exact h3, h4⟩
      | gp m i o =>
        rw [hg] at hs hp'
        have := hp' m (by rw [e, hg]) (by simp [Slot.points])
        obtain ⟨b, len, cap, fr, v0, bs, e', sz, bys, es, h1, h2, h3, h4⟩ := hs
        exact ⟨b, len, cap, fr, v0, bs, e', sz, bys, es, by rw [this]; exact h1, h2, h3, h4⟩
      | _ => rw [hg] at hs; exact hs
    · rw [e]; trivial
  apart n m b h1 h2 := by
    rcases hE n with e | e
    · rcases hE m with e' | e'
      · rw [e] at h1; rw [e'] at h2; exact h.apart n m b h1 h2
      · rw [e'] at h2; simp [blkP] at h2
    · rw [e] at h1; simp [blkP] at h1
def drop1 (n : Nat) (E : Env) : Env := (n, .undef) :: killRefs n E
theorem get_drop1 (n m : Nat) : get (drop1 n E) m = if n = m ∨ (get E m).points n = true then .undef else get E m := by
  simp only [drop1, get, get_kill]
  by_cases h : n = m
  · simp [h]
  · simp [h]
theorem InvO.forget1 (h : InvO ok N B w0 E a w) (n : Nat) : InvO ok N B w0 (drop1 n E) a w := by
  refine h.weaken (fun m => ?_) (fun k m hk hm => ?_)
  · rw [get_drop1]
    split
    · exact .inr rfl
    · exact .inl rfl
  · rw [get_drop1] at hk ⊢
    split at hk
    · rename_i h1
      have : (get E k).points m = false := by rw [← hk]; rfl
      rw [hm] at this; exact absurd this (by simp)
    · rename_i h1
      split
      · rename_i h2
        rcases h2 with h2 | h2
        · subst h2; exact absurd (.inr hm) h1
        · have := points_excl hm (h.slot k)
          cases hg : get E m <;> simp_all [Slot.excl, Slot.points]
      · rfl
structure Changed (b0 : Nat) (w w' : World) : Prop where
  os : w'.os = w.os
  tape : w'.tape = w.tape
  output : w'.output = w.output
  size : w.heap.size ≤ w'.heap.size
  block : ∀ k, k < w.heap.size → k ≠ b0 → w'.heap[k]? = w.heap[k]?
theorem Changed.below {b0 : Nat} {w w' : World} (h : Changed b0 w w') (hb : B.has b0) (hB : B.n ≤ w.heap.size) : BelowL B w w' :=
  ⟨h.os, h.tape, h.output, h.size, fun k hk hl => h.block k (by omega) (fun e => by subst e; exact hb.elim (fun h => by omega) hl)⟩
theorem Changed.keeps {b0 : Nat} {w w' : World} (h : Changed b0 w w') (hlt : ∀ b, ok b → b < w.heap.size) (hb : ¬ ok b0) : Keeps ok ok w w' :=
  fun b hok => ⟨hok, fun o => World.cell?_of_block (w := w) (a := ⟨b, o, none⟩) (h.block b (hlt b hok) (fun e => hb (e ▸ hok)))⟩
theorem SlotOK.changed {b0 : Nat} {w w' : World} {s : Slot} {v : Value} (hc : Changed b0 w w') (hlt : ∀ b, ok b → b < w.heap.size) (hb : ¬ ok b0) (h : SlotOK B ok w a E s v)
    (hs : ¬ blkP s v b0) : SlotOK B ok w' a E s v := by
  have hk := hc.keeps hlt hb
  cases s with
  | undef => trivial
  | v d => exact Rep.mono hk d v h
  | agg ds => exact AggRep.mono hk h
  | tup rs =>
    obtain ⟨vs, hv, hr⟩ := h
    exact ⟨vs, hv, hr.mono (fun _ _ h => RVOK'.mono hk h)⟩
  | own e sz bys es =>
    have h' := h
    obtain ⟨_, xs, ho, _, hn⟩ := h'
    exact OwnRep.keep h hk (fun b hb' => hc.block b (ownBlk_lt ho hb').2 (fun e => hs (by rw [← e]; simpa [blkP] using hb'))) hn
  | box ds =>
    obtain ⟨b, cs, t, hv, hB, hno, hh, hr⟩ := h
    have hbl : b < w.heap.size := (Array.getElem?_eq_some_iff.1 hh).1
    refine ⟨b, cs, t, hv, hB, hno, ?_, hr.mono (fun d v => Rep.mono hk d v)⟩
    rw [hc.block b hbl (fun e => hs (by rw [← e, hv]; rfl))]; exact hh
  | al n => exact h
  | ref n o => exact h
  | oel n i o => exact h
  | row ds =>
    obtain ⟨b, o, hv, hb', hr⟩ := h
    exact ⟨b, o, hv, hb', RepRow.mono hk b hb' ds o hr⟩
  | clo f caps => exact CloOK.mono hk h
  | ub pt pf => exact h
  | skp => exact h
  | heap fr v0 bs e sz bys es =>
    obtain ⟨h1, h2, h3⟩ := h
    exact ⟨XRep.mono hk _ _ _ (fun b hb' => hc.block b (h3 b hb').2.2 (fun e => hs (by rw [← e]; exact hb'))) h1, h2, fun b hb' => ⟨(h3 b hb').1, (h3 b hb').2.1, Nat.lt_of_lt_of_le (h3 b hb').2.2 hc.size⟩⟩
  | gp m i o => exact h
  | hold b o =>
    obtain ⟨h1, h2, h3⟩ := h
    exact ⟨by rw [hc.block b (Array.getElem?_eq_some_iff.1 h1).1 (fun e => hs e)]; exact h1, h2, h3⟩
theorem InvO.changed (h : InvO ok N B w0 E a w) {b0 : Nat} {w' : World} (hc : Changed b0 w w') (hB : B.has b0) (hb : ¬ ok b0) (hs : ∀ n, ¬ blkP (get E n) (tm a n) b0) : InvO ok N B w0 E a w' where
  size := h.size
  defers := h.defers
  below := h.below.trans (hc.below hB h.base)
  base := Nat.le_trans h.base hc.size
  okLt b hok := Nat.lt_of_lt_of_le (h.okLt b hok) hc.size
  slot n := (h.slot n).changed hc h.okLt hb (hs n)
  apart := h.apart
theorem InvO.more (h : InvO ok N B w0 E a w) {ok' : Nat → Prop} (h1 : ∀ b, ok b → ok' b) (h2 : ∀ b, ok' b → b < w.heap.size) (h3 : ∀ b, ok' b → ¬ ok b → ∀ n, ¬ blkP (get E n) (tm a n) b) : InvO ok' N B w0 E a w where
  size := h.size
  defers := h.defers
  below := h.below
  base := h.base
  okLt := h2
  slot n := by
    have hk : Keeps ok ok' w w := fun b hb => ⟨h1 b hb, fun _ => rfl⟩
    have hs := h.slot n
    have hn : ∀ b, blkP (get E n) (tm a n) b → ¬ ok b → ¬ ok' b := fun b hb hno hok => h3 b hok hno n hb
    revert hs hn
    generalize get E n = s
    intro hs hn
    cases s with
    | undef => trivial
    | v d => exact Rep.mono hk d _ hs
    | agg ds => exact AggRep.mono hk hs
    | tup rs =>
      obtain ⟨vs, hv, hr⟩ := hs
      exact ⟨vs, hv, hr.mono (fun _ _ h => RVOK'.mono hk h)⟩
    | own e sz bys es =>
      exact OwnRep.keep hs hk (fun _ _ => rfl) (fun b hb => hn b (by simpa [blkP] using hb) (hs.2.choose_spec.2.2 b hb))
    | box ds =>
      obtain ⟨b, cs, t, hv, hB, hno, hh, hr⟩ := hs
      exact ⟨b, cs, t, hv, hB, hn b (by rw [hv]; rfl) hno, hh, hr.mono (fun d v => Rep.mono hk d v)⟩
    | al n => exact hs
    | ref n o => exact hs
    | oel n i o => exact hs
    | row ds =>
      obtain ⟨b, o, hv, hb', hr⟩ := hs
      exact ⟨b, o, hv, h1 b hb', RepRow.mono hk b hb' ds o hr⟩
    | clo f caps => exact CloOK.mono hk hs
    | ub pt pf => exact hs
    | skp => exact hs
    | heap fr v0 bs e sz bys es =>
      obtain ⟨h4, h5, h6⟩ := hs
      exact ⟨XRep.mono hk _ _ _ (fun _ _ => rfl) h4, h5, fun b hb => ⟨hn b hb (h6 b hb).1, (h6 b hb).2⟩⟩
    | gp m i o => exact hs
    | hold b o => exact ⟨hs.1, hn b rfl hs.2.1, hs.2.2⟩
  apart := h.apart
end
end Go.Rd

namespace Go.Rd
open Go.RowKit
def zeroIs (P : Program) (t : TypeId) (ds : List DV) : Bool := match P.info? t with | some i => (match i.zero with | some z => dvsEq ds z.cells.toList | none => false) | none => false
def isOwn (E : Env) (n : Nat) : Option (Nat × Nat × Nat × List (List DV)) := match get E n with
  | .own e sz bys es => some (e, sz, bys, es)
  | _ => none
def stp (E : Env) (dst : Option Nat) (g : AOp) : Option Env :=
  match g, dst with
  | .alc ds, some d => if okPut d .undef E then some ((d, .box ds) :: E) else none
  | .box x, some d => if okPut d .undef E then (match vw E x with
      | .v dv => some ((d, .box [dv]) :: E)
      | .agg ds => some ((d, .box ds) :: E)
      | _ => none) else none
  | .mks e sz bys zero n, some d => if okPut d .undef E then (match vInt E n with
      | some k => if 0 ≤ k ∧ bys * k ≤ 140737488355328 ∧ k ≤ 1099511627776 then some ((d, .own e sz bys (List.replicate k.toNat zero)) :: E) else none
      | none => none) else none
  | .nilo e sz bys, some d => if okPut d .undef E then some ((d, .own e sz bys []) :: E) else none
  | .bslo e sz bys rows, some d => if okPut d .undef E then (layRows E sz rows).map fun es => (d, .own e sz bys es) :: E else none
  | .asg take x, some d => match vw E x with
    | .al n => match isOwn E n with
      | some (e, sz, bys, es) =>
        if take then (if d ≠ n ∧ okPut d .undef (drop1 n E) then some ((d, .own e sz bys es) :: drop1 n E) else none)
        else (if d ≠ n ∧ okPut d .undef (drop1 n E) then some ((d, .v (.sl sz es)) :: (n, .v (.sl sz es)) :: drop1 n E) else none)
      | none => none
    | s => if okPut d s E then some ((d, s) :: E) else none
  | .sto m' ad x, none => match vw E ad with
    | .ref n o => match get E n with
      | .box ds => match vw E x with
        | .v d => if m' = 1 ∧ o < ds.length then some ((n, .box (ds.set o d)) :: E) else none
        | .agg ds' => if m' = ds'.length ∧ o + ds'.length ≤ ds.length then some ((n, .box (ds.take o ++ ds' ++ ds.drop (o + ds'.length))) :: E) else none
        | .al m => match isOwn E m with
          | some (_, sz, _, es) => if m' = 1 ∧ o < ds.length ∧ n ≠ m then some ((n, .box (ds.set o (.sl sz es))) :: (m, .v (.sl sz es)) :: drop1 m E) else none
          | none => none
        | _ => none
      | _ => none
    | .oel n i o => match isOwn E n with
      | some (e, sz, bys, es) => match vw E x with
        | .v d => if m' = 1 ∧ o < sz then some ((n, .own e sz bys (es.set i ((es.getD i []).set o d))) :: E) else none
        | .agg ds' => if m' = ds'.length ∧ o + ds'.length ≤ sz then some ((n, .own e sz bys (es.set i ((es.getD i []).take o ++ ds' ++ (es.getD i []).drop (o + ds'.length)))) :: E) else none
        | _ => none
      | none => none
    | _ => none
  | .app e sz bys x y, some d =>
    match x with
    | .nil _ => match vw E y with
      | .v (.sl sz' es') => if okPut d .undef E ∧ sz' = sz ∧ es'.length * bys ≤ 140737488355328 ∧ es'.length ≤ 1099511627776 then some ((d, .own e sz bys es') :: E) else none
      | _ => none
    | x => match vw E x, vw E y with
      | .al n, .v (.sl sz' es') => match isOwn E n with
        | some (e', sz'', bys', es) => if e' = e ∧ sz'' = sz ∧ bys' = bys ∧ sz' = sz ∧ d ≠ n ∧ okPut d .undef (drop1 n E) ∧ (es.length + es'.length) * bys ≤ 140737488355328 ∧ es.length + es'.length ≤ 1099511627776
            then some ((d, .own e sz bys (es ++ es')) :: drop1 n E) else none
        | none => none
      | _, _ => none
  | _, _ => none
section
variable {P : Program} {ok : Nat → Prop} {N : Nat} {B : Bd} {w0 : World} {E : Env} {a : Act} {w : World}
def Done (P : Program) (ok : Nat → Prop) (N : Nat) (B : Bd) (w0 : World) (a : Act) (w : World) (o : Oper) (E' : Env) : Prop :=
  ∀ (K : Act → World → Prop) (Q : Exit → Act → World → Prop), (∀ ok' a' w', InvO ok' N B w0 E' a' w' → (∀ b, ok' b → ok b ∨ B.n ≤ b) → K a' w') → o.wp P a w K Q
theorem Done.value {o : Oper} {E' : Env} {v : Value} {w' : World} {ok' : Nat → Prop} (hr : (execOp a.eval o).run P w = .ok (.value v) w') (hn : ∀ b, ok' b → ok b ∨ B.n ≤ b) (hI : InvO ok' N B w0 E' (a.put o.dst v) w') : Done P ok N B w0 a w o E' := by
  intro K Q hK
  unfold Oper.wp
  rw [hr]
  exact hK _ _ _ hI hn
theorem Done.skip {o : Oper} {E' : Env} {w' : World} {ok' : Nat → Prop} (hr : (execOp a.eval o).run P w = .ok .skip w') (hn : ∀ b, ok' b → ok b ∨ B.n ≤ b) (hI : InvO ok' N B w0 E' (a.put o.dst undef) w') : Done P ok N B w0 a w o E' := by
  intro K Q hK
  unfold Oper.wp
  rw [hr]
  exact hK _ _ _ hI hn
theorem World.alloc_changed (w : World) (o : Obj) : Below w.heap.size w (w.alloc o) := (Below.refl _ _).alloc (Nat.le_refl _) _
theorem blk_lt {n b : Nat} (h : InvO ok N B w0 E a w) (hb : blkP (get E n) (tm a n) b) : B.has b ∧ b < w.heap.size ∧ ¬ ok b := by
  have hs := h.slot n
  revert hs hb
  generalize get E n = s
  intro hb hs
  cases s with
  | own e sz bys es =>
    obtain ⟨_, xs, ho, _, hn⟩ := hs
    have hb' : ownBlk (tm a n) = some b := by simpa [blkP] using hb
    exact ⟨.inl (ownBlk_lt ho hb').1, (ownBlk_lt ho hb').2, hn b hb'⟩
  | box ds =>
    obtain ⟨b', cs, t, hv, hB, hno, hh, _⟩ := hs
    rw [hv] at hb
    have e : b' = b := by simpa [blkP] using hb
    subst e
    exact ⟨.inl hB, (Array.getElem?_eq_some_iff.1 hh).1, hno⟩
  | heap fr v0 bs e sz bys es =>
    obtain ⟨_, _, h3⟩ := hs
    have := h3 b hb
    exact ⟨this.2.1.imp_right (·.2), this.2.2, this.1⟩
  | hold c o =>
    have e : c = b := hb
    subst e
    exact ⟨hs.2.2, (Array.getElem?_eq_some_iff.1 hs.1).1, hs.2.1⟩
  | _ => simp [blkP] at hb
theorem InvO.fresh {d : Nat} {s : Slot} {v : Value} {w' : World} (h : InvO ok N B w0 E a w) (hw : Below w.heap.size w w') (hd : d < N) (hp : okPut d .undef E = true) (hsp : ∀ m, s.points m = false)
    (hs : SlotOK B ok w' a E s v) (hb : ∀ b, blkP s v b → w.heap.size ≤ b) : InvO ok N B w0 ((d, s) :: E) (a.put (some d) v) w' := by
  have h' := h.grow hw ⟨fun _ h => h, fun _ h => .inl h, fun b hb => Nat.lt_of_lt_of_le (h.okLt b hb) hw.size⟩
  refine h'.put hd ?_ hs (fun b hbs n hn hbn => ?_)
  · simp only [okPut, Bool.or_eq_true, Bool.and_eq_true, Bool.not_eq_true'] at hp ⊢
    exact hp.imp_right fun h => ⟨h.1, hsp d⟩
  · have h1 := hb b hbs
    have h2 := (blk_lt h hbn).2.1
    omega
theorem box_slot {b : Nat} {cs : Array Value} {t : TypeId} {ds : List DV} (hh : w.heap[b]? = some (.cells cs t (0, 0))) (hB : B.n ≤ b) (hn : ¬ ok b) (hr : All2 (Rep ok w) ds cs.toList) :
    SlotOK B ok w a E (.box ds) (.pointer (some ⟨b, 0, none⟩)) := ⟨b, cs, t, rfl, hB, hn, hh, hr⟩
theorem keeps_alloc (h : InvO ok N B w0 E a w) (o : Obj) : Keeps ok ok w (w.alloc o) :=
  Keeps.of h.okLt (World.alloc_changed w o) ⟨fun _ h => h, fun _ h => .inl h, fun b hb => by have := h.okLt b hb; simp; omega⟩
theorem done_boxv {o : Oper} {d : Nat} {t : TypeId} {cs : Array Value} {ds : List DV} (h : InvO ok N B w0 E a w) (hd : o.dst = some d) (hdN : d < N) (hp : okPut d .undef E = true)
    (hr : (execOp a.eval o).run P w = .ok (.value (.pointer (some ⟨w.heap.size, 0, none⟩))) (w.alloc (.cells cs t))) (hall : All2 (Rep ok w) ds cs.toList) : Done P ok N B w0 a w o ((d, .box ds) :: E) := by
  refine Done.value hr (ok' := ok) (fun _ h => .inl h) ?_
  rw [hd]
  refine h.fresh (World.alloc_changed w _) hdN hp (fun _ => rfl) (box_slot (heap_alloc_new w _) h.base (fun hok => ?_) (hall.mono (fun d v => Rep.mono (keeps_alloc h _) d v))) (fun b hb => ?_)
  · have := h.okLt _ hok; omega
  · simp [blkP] at hb; omega
theorem done_alc {o : Oper} {d : Nat} {t : TypeId} {ds : List DV} (h : InvO ok N B w0 E a w) (ho : o.op = .alloc t) (hd : o.dst = some d) (hdN : d < N) (hp : okPut d .undef E = true)
    (hz : zeroIs P t ds = true) : Done P ok N B w0 a w o ((d, .box ds) :: E) := by
  unfold zeroIs at hz
  split at hz
  case h_2 => exact (Bool.false_ne_true hz).elim
  rename_i i hi
  split at hz
  case h_2 => exact (Bool.false_ne_true hz).elim
  rename_i z hzz
  refine done_boxv (cs := z.cells) (t := t) h hd hdN hp ?_ (dvsEq_ok hz)
  simp [execOp, ho, Instr.alloc, zeroValue, typeInfo, hi, hzz, newVar, newRow]
theorem done_box {o : Oper} {d : Nat} {t : TypeId} {y : Operand} {x : X} {ds : List DV} (h : InvO ok N B w0 E a w) (ho : o.op = .box t y) (hm : mx y x = true) (hd : o.dst = some d) (hdN : d < N) (hp : okPut d .undef E = true)
    (hv : (∃ dv, vw E x = .v dv ∧ ds = [dv]) ∨ vw E x = .agg ds) : Done P ok N B w0 a w o ((d, .box ds) :: E) := by
  have hs := mx_ok h hm
  refine done_boxv (cs := (a.eval y).cells) (t := t) h hd hdN hp ?_ ?_
  · simp [execOp, ho, Instr.box, newVar, newRow]
  · rcases hv with ⟨dv, hv, rfl⟩ | hv
    · rw [hv] at hs
      have hc1 : (a.eval y).cells = #[a.eval y] := by
        exact rep_cells hs
      rw [hc1]; exact ⟨hs, trivial⟩
    · rw [hv] at hs
      obtain ⟨us, hy, hu⟩ := hs
      rw [hy]; simpa [Value.cells] using hu
theorem flatten_replicate_all {zero : List DV} {zs : List Value} (hz : All2 (Rep ok w) zero zs) : ∀ n, All2 (Rep ok w) (List.replicate n zero).flatten (List.replicate n zs).flatten
  | 0 => by simp [All2]
  | n + 1 => by
    simp only [List.replicate_succ, List.flatten_cons]
    exact All2.append _ _ _ _ hz (flatten_replicate_all hz n)
theorem done_nilo {o : Oper} {d e sz bys : Nat} {y : Operand} (h : InvO ok N B w0 E a w) (ho : o.op = .assign y ∨ o.op = .move y) (hy : a.eval y = .slice none 0 0) (hd : o.dst = some d) (hdN : d < N) (hp : okPut d .undef E = true) :
    Done P ok N B w0 a w o ((d, .own e sz bys []) :: E) := by
  have hr : (execOp a.eval o).run P w = .ok (.value (.slice none 0 0)) w := by
    rcases ho with ho | ho <;> simp [execOp, ho, hy]
  refine Done.value hr (ok' := ok) (fun _ h => .inl h) ?_
  rw [hd]
  refine h.fresh (Below.refl _ _) hdN hp (fun _ => rfl) ⟨by simp, [], World.ownsRow_nil _ _ _ _, by simp [All2], fun b hb => by simp [ownBlk] at hb⟩ (fun b hb => by simp [blkP, ownBlk] at hb)
theorem madeCells_list (z : Array Value) (n : Nat) : (madeCells z (n * z.size)).toList = (List.replicate n z.toList).flatten := by
  apply List.ext_getElem
  · simp [madeCells]
  · intro i h1 h2
    have hi : i < n * z.size := by simpa [madeCells] using h1
    have hsz : 0 < z.size := by
      rcases Nat.eq_zero_or_pos z.size with h | h
      · rw [h] at hi; simp at hi
      · exact h
    have hmod : i % z.size < z.size := Nat.mod_lt _ hsz
    have h3 : ∀ (n i : Nat) (_ : i < n * z.size) (h : i < ((List.replicate n z.toList).flatten).length), ((List.replicate n z.toList).flatten)[i] = z[i % z.size]'(Nat.mod_lt _ hsz) := by
      intro n
      induction n with
      | zero => intro i hi; simp at hi
      | succ n ih =>
        intro i hi h
        simp only [List.replicate_succ, List.flatten_cons]
        by_cases hlt : i < z.size
        · rw [List.getElem_append_left (by simpa using hlt)]
          simp [Nat.mod_eq_of_lt hlt]
        · rw [List.getElem_append_right (by simpa using hlt)]
          have hi' : i - z.size < n * z.size := by rw [Nat.add_mul] at hi; omega
          have := ih (i - z.size) hi' (by simp; exact hi')
          simp only [Array.length_toList]
          rw [this]
          congr 1
          rw [Nat.mod_eq_sub_mod (by omega : i ≥ z.size)]
    rw [h3 n i hi h2]
    have : (madeCells z (n * z.size)).toList[i] = z[i % z.size]! := by simp [madeCells]
    rw [this, getElem!_pos z _ hmod]
end
end Go.Rd

namespace Go.Rd
open Go.RowKit
section
variable {P : Program} {ok : Nat → Prop} {N : Nat} {B : Bd} {w0 : World} {E : Env} {a : Act} {w : World}
def ownT (P : Program) (t : TypeId) (e sz bys : Nat) : Bool :=
  (match P.underlying t with | some (.slice e') => e' == e | _ => false) && (match P.info? e with
    | some i => i.size == sz && i.bytes == bys && (match i.zero with | some z => z.cells.size == sz | none => false)
    | none => false) && decide (0 < sz)
theorem ownT_ok {t e sz bys : Nat} (h : ownT P t e sz bys = true) : P.underlying t = some (.slice e) ∧ ∃ i z, P.info? e = some i ∧ i.zero = some z ∧ i.size = sz ∧ i.bytes = bys ∧ z.cells.size = sz ∧ 0 < sz := by
  simp only [ownT, Bool.and_eq_true, decide_eq_true_eq] at h
  obtain ⟨⟨h1, h2⟩, h3⟩ := h
  split at h1
  case h_2 => exact (Bool.false_ne_true h1).elim
  rename_i e' hu
  have : e' = e := by simpa using h1
  subst this
  split at h2
  case h_2 => exact (Bool.false_ne_true h2).elim
  rename_i i hi
  simp only [Bool.and_eq_true, beq_iff_eq] at h2
  obtain ⟨⟨h4, h5⟩, h6⟩ := h2
  split at h6
  case h_2 => exact (Bool.false_ne_true h6).elim
  rename_i z hz
  exact ⟨hu, i, z, hi, hz, h4, h5, by simpa using h6, h3⟩
theorem Below.of_grown {w w' : World} {row : Option Nat} (h : w.grownBy w' row) (hr : row = none) : Below w.heap.size w w' :=
  ⟨h.os, h.tape, h.output, h.size, fun k hk => h.block k hk (by simp [hr])⟩
theorem done_mks {o : Oper} {d t e sz bys : Nat} {zero : List DV} {y y2 : Operand} {x : X} {k : Int} (h : InvO ok N B w0 E a w) (ho : o.op = .makeSlice t y y2) (hm2 : mx y2 x = true) (ht : ownT P t e sz bys = true)
    (hz : zeroIs P e zero = true)
    (hm : mx y x = true) (hd : o.dst = some d) (hdN : d < N) (hp : okPut d .undef E = true) (hk : vInt E x = some k) (h0 : 0 ≤ k) (hb : bys * k ≤ 140737488355328) (hk2 : k ≤ 1099511627776) :
    Done P ok N B w0 a w o ((d, .own e sz bys (List.replicate k.toNat zero)) :: E) := by
  obtain ⟨hu, i, z, hi, hzz, h1, h2, h3, h4⟩ := ownT_ok ht
  obtain ⟨ki, hy, hvk⟩ := vInt_ok h hm hk
  obtain ⟨ki2, hy2, hvk2⟩ := vInt_ok h hm2 hk
  have hkk2 : ki2 = ki := by rw [hvk] at hvk2; simp at hvk2; exact hvk2.symm
  subst hkk2
  unfold zeroIs at hz
  rw [hi] at hz
  dsimp only at hz
  rw [hzz] at hz
  dsimp only at hz
  have hkk : (k.toNat : Int) = k := by omega
  have hb2 : bys * k.toNat ≤ 281474976710656 := by
    have : ((bys * k.toNat : Nat) : Int) ≤ 140737488355328 := by rw [Int.natCast_mul, hkk]; exact hb
    omega
  obtain ⟨w', hr, hown, hg⟩ := run_make_full (P := P) w B.n t e i z sz hu hi hzz h1 ki2 ki2 k.toNat (by rw [h2]; exact hb2) (by unfold maxLen; omega) h.base
  rw [hkk] at hr
  have hw := Below.of_grown hg rfl
  have hx : OkExt ok ok w w' := ⟨fun _ h => h, fun _ h => .inl h, fun b hb => Nat.lt_of_lt_of_le (h.okLt b hb) hw.size⟩
  refine Done.value (v := .slice (some ⟨w.heap.size, 0, none⟩) k.toNat k.toNat) (w' := w') (by simp [execOp, ho, hy, hy2, hr]) (ok' := ok) (fun _ h => .inl h) ?_
  rw [hd]
  refine h.fresh hw hdN hp (fun _ => rfl) ⟨fun r hr => ?_, (madeCells z.cells (k.toNat * sz)).toList, by simpa using hown, ?_, fun b hb => ?_⟩ (fun b hb => ?_)
  · have := (List.mem_replicate.1 hr).2
    subst this
    have := (dvsEq_ok (ok := ok) (w := w) hz).length
    simp at this; omega
  · rw [← h3, madeCells_list]
    exact flatten_replicate_all (dvsEq_ok hz) k.toNat
  · have e : w.heap.size = b := by simpa [ownBlk] using hb
    subst e
    intro hok
    have := h.okLt _ hok; omega
  · have e : w.heap.size = b := by simpa [blkP, ownBlk] using hb
    omega
theorem done_bslo {o : Oper} {d t n e sz bys : Nat} {parts : Array (Nat × Operand)} {rows : List X} {es : List (List DV)} (h : InvO ok N B w0 E a w) (ho : o.op = .buildSlice t n parts)
    (hc : chkBsl P t n parts.toList e sz rows = true) (hd : o.dst = some d) (hdN : d < N) (hp : okPut d .undef E = true) (hl : layRows E sz rows = some es) : Done P ok N B w0 a w o ((d, .own e sz bys es) :: E) := by
  obtain ⟨cells, hr, hall, hsz, hrow⟩ := run_bsl (P := P) h hc hl
  refine Done.value (v := .slice (some ⟨w.heap.size, 0, none⟩) es.length es.length) (w' := w.alloc (.cells cells e)) (by simp [execOp, ho, hr]) (ok' := ok) (fun _ h => .inl h) ?_
  rw [hd]
  have hn : es.length ≤ 16777216 := by
    simp only [chkBsl, Bool.and_eq_true, decide_eq_true_eq, beq_iff_eq] at hc
    have h1 := hc.1.1.2
    have h2 := hc.1.2
    have h3 := hc.1.1.1.2
    have h4 := (layRows_len rows es hl).1
    have : n ≤ n * sz := Nat.le_mul_of_pos_right n h3
    omega
  refine h.fresh (World.alloc_changed w _) hdN hp (fun _ => rfl) ⟨hrow, cells.toList, World.ownsRow_lit w cells es.length h.base (by unfold maxLen; omega) hsz, hall.mono (fun d v => Rep.mono (keeps_alloc h _) d v), fun b hb => ?_⟩ (fun b hb => ?_)
  · have e : w.heap.size = b := by simpa [ownBlk] using hb
    subst e
    intro hok
    have := h.okLt _ hok; omega
  · have e : w.heap.size = b := by simpa [blkP, ownBlk] using hb
    omega
theorem loc_bsl {o : Oper} {d t n e sz : Nat} {parts : Array (Nat × Operand)} {rows : List X} {es : List (List DV)} (h : InvO ok N B w0 E a w) (ho : o.op = .buildSlice t n parts)
    (hc : chkBsl P t n parts.toList e sz rows = true) (hl : layRows E sz rows = some es) :
    ∃ v w' ok', (execOp a.eval o).run P w = .ok (.value v) w' ∧ Below w.heap.size w w' ∧ OkExt ok ok' w w' ∧ SlotOK B ok' w' a E (.v (.sl sz es)) v := by
  obtain ⟨cells, hr, hall, hsz, hrow⟩ := run_bsl (P := P) h hc hl
  have hx : OkExt ok (fun b => ok b ∨ b = w.heap.size) w (w.alloc (.cells cells e)) :=
    ⟨fun _ h => .inl h, fun b hb => hb.imp_right (fun e => by omega), fun b hb => by
      rcases hb with hb | hb
      · have := h.okLt b hb; simp; omega
      · simp; omega⟩
  have hw := World.alloc_changed w (.cells cells e)
  refine ⟨.slice (some ⟨w.heap.size, 0, none⟩) es.length es.length, w.alloc (.cells cells e), _, by simp [execOp, ho, hr], hw, hx, ?_⟩
  simp only [SlotOK, Rep]
  refine ⟨_, _, rfl, Nat.le_refl _, .inr ⟨w.heap.size, 0, rfl, .inr rfl, ?_⟩⟩
  refine rows_of_flat es 0 cells.toList hrow (hall.mono (fun d v => Rep.mono (Keeps.of h.okLt hw hx) d v)) (fun j v hj => ?_)
  rw [cell_off (heap_alloc_new w _)]
  simpa using hj
theorem isOwn_some {n : Nat} {q : Nat × Nat × Nat × List (List DV)} (h : isOwn E n = some q) : get E n = .own q.1 q.2.1 q.2.2.1 q.2.2.2 := by
  unfold isOwn at h
  split at h
  · rename_i hg; simp at h; subst h; exact hg
  · simp at h
theorem al_val {n : Nat} {y : Operand} {x : X} (h : InvO ok N B w0 E a w) (hm : mx y x = true) (hv : vw E x = .al n) : a.eval y = tm a n := by
  have := mx_ok h hm
  rw [hv] at this
  exact this.1
theorem InvO.take {n d e sz bys : Nat} {es : List (List DV)} (h : InvO ok N B w0 E a w) (hg : get E n = .own e sz bys es) (hdN : d < N) (hdn : d ≠ n) (hp : okPut d .undef (drop1 n E) = true) :
    InvO ok N B w0 ((d, .own e sz bys es) :: drop1 n E) (a.put (some d) (tm a n)) w := by
  have hs := h.slot n
  rw [hg] at hs
  refine (h.forget1 n).put hdN ?_ hs (fun b hb m hm hbm => ?_)
  · simp only [okPut, Bool.or_eq_true, Bool.and_eq_true, Bool.not_eq_true'] at hp ⊢
    exact hp.imp_right fun h => ⟨h.1, rfl⟩
  · rw [get_drop1] at hbm
    split at hbm
    · simp [blkP] at hbm
    · rename_i hne
      have : n = m := h.apart n m b (by rw [hg]; exact hb) hbm
      exact hne (.inl this)
theorem InvO.freeze {n e sz bys : Nat} {es : List (List DV)} (h : InvO ok N B w0 E a w) (hg : get E n = .own e sz bys es) :
    ∃ ok', (∀ b, ok' b → ok b ∨ B.n ≤ b) ∧ InvO ok' N B w0 ((n, .v (.sl sz es)) :: drop1 n E) a w ∧ Rep ok' w (.sl sz es) (tm a n) := by
  have hs := h.slot n
  rw [hg] at hs
  have h1 : InvO (fun b => ok b ∨ ownBlk (tm a n) = some b) N B w0 (drop1 n E) a w := by
    refine (h.forget1 n).more (fun b hb => .inl hb) (fun b hb => ?_) (fun b hb hno m hbm => ?_)
    · rcases hb with hb | hb
      · exact h.okLt b hb
      · exact (ownBlk_lt hs.2.choose_spec.1 hb).2
    · rcases hb with hb | hb
      · exact hno hb
      · rw [get_drop1] at hbm
        split at hbm
        · simp [blkP] at hbm
        · rename_i hne
          exact hne (.inl (h.apart n m b (by rw [hg]; exact hb) hbm))
  have hr : Rep (fun b => ok b ∨ ownBlk (tm a n) = some b) w (.sl sz es) (tm a n) := own_rep hs (fun b hb => .inl hb) (fun b hb => .inr hb)
  refine ⟨_, fun b hb => hb.imp_right (fun hb => (ownBlk_lt hs.2.choose_spec.1 hb).1), ⟨h1.size, h1.defers, h1.below, h1.base, h1.okLt, fun m => ?_, fun m m' b hm hm' => ?_⟩, hr⟩
  · by_cases hnm : n = m
    · subst hnm
      simp only [get, if_true]
      exact hr
    · have := h1.slot m
      simp only [get, if_neg hnm]
      revert this
      have hp : (get (drop1 n E) m).points n = false := by
        rw [get_drop1]; split
        · rfl
        · rename_i hne; simpa using fun h => hne (.inr h)
      revert hp
      generalize get (drop1 n E) m = s
      intro hp hs'
      cases s with
      | al k =>
        have hk : k ≠ n := by simpa [Slot.points] using hp
        obtain ⟨h2, h3⟩ := hs'
        exact ⟨h2, by simpa [get, Ne.symm hk] using h3⟩
      | ref k o =>
        have hk : k ≠ n := by simpa [Slot.points] using hp
        obtain ⟨b, ds, h2, h3, h4⟩ := hs'
        exact ⟨b, ds, h2, h3, by simpa [get, Ne.symm hk] using h4⟩
      | oel k i o =>
        have hk : k ≠ n := by simpa [Slot.points] using hp
        obtain ⟨b, len, cap, e', sz', bys', es', h2, h3, h4, h5⟩ := hs'
        exact ⟨b, len, cap, e', sz', bys', es', h2, h3, by simpa [get, Ne.symm hk] using h4, h5⟩
      | gp k i o =>
        have hk : k ≠ n := by simpa [Slot.points] using hp
        obtain ⟨b, len, cap, fr, v0, bs, e', sz', bys', es', h2, h3, h4, h5⟩ := hs'
        exact ⟨b, len, cap, fr, v0, bs, e', sz', bys', es', by simpa [get, Ne.symm hk] using h2, h3, h4, h5⟩
      | _ => exact hs'
  · have hb : ∀ m, blkP (get ((n, Slot.v (.sl sz es)) :: drop1 n E) m) (tm a m) b → blkP (get (drop1 n E) m) (tm a m) b := by
      intro m hm
      by_cases hnm : n = m
      · simp [get, hnm, blkP] at hm
      · simpa [get, hnm] using hm
    exact h1.apart m m' b (hb m hm) (hb m' hm')
theorem done_asg {o : Oper} {d : Nat} {take : Bool} {y : Operand} {x : X} {E' : Env} (h : InvO ok N B w0 E a w) (ho : o.op = .assign y ∨ o.op = .move y) (hm : mx y x = true) (hd : o.dst = some d) (hdN : d < N)
    (hs : stp E (some d) (.asg take x) = some E') : Done P ok N B w0 a w o E' := by
  have hr : (execOp a.eval o).run P w = .ok (.value (a.eval y)) w := by
    rcases ho with ho | ho <;> simp [execOp, ho]
  simp only [stp] at hs
  split at hs
  · rename_i n hv
    have hy := al_val h hm hv
    split at hs
    case h_2 => simp at hs
    rename_i e sz bys es hio
    have hg := isOwn_some hio
    dsimp only at hg
    split at hs
    · split at hs
      case isFalse => simp at hs
      rename_i hc
      simp only [Option.some.injEq] at hs; subst hs
      refine Done.value hr (ok' := ok) (fun _ h => .inl h) ?_
      rw [hd, hy]
      exact h.take hg hdN hc.1 hc.2
    · split at hs
      case isFalse => simp at hs
      rename_i hc
      simp only [Option.some.injEq] at hs; subst hs
      obtain ⟨ok', hnew, h1, h2⟩ := h.freeze hg
      refine Done.value hr (ok' := ok') hnew ?_
      rw [hd, hy]
      refine h1.put hdN ?_ h2 (fun b hb => by simp [blkP] at hb)
      have hp := hc.2
      simp only [okPut, noRefs, get, if_neg (Ne.symm hc.1), Bool.or_eq_true, Bool.and_eq_true, Bool.not_eq_true', Slot.points] at hp ⊢
      exact hp.imp_right fun h => ⟨⟨trivial, h.1⟩, trivial⟩
  · rename_i s hns
    split at hs
    case isFalse => simp at hs
    rename_i hp
    simp only [Option.some.injEq] at hs; subst hs
    refine Done.value hr (ok' := ok) (fun _ h => .inl h) ?_
    rw [hd]
    refine h.put hdN hp (mx_ok h hm) (fun b hb => ?_)
    have : (vw E x).excl = false := by
      cases x with
      | t n => simp only [vw]; cases get E n <;> rfl
      | c d => rfl
      | nil sz => rfl
      | fn f => rfl
    exact absurd hb (blkP_none this)
end
end Go.Rd

namespace Go.Rd
open Go.RowKit
section
variable {P : Program} {ok : Nat → Prop} {N : Nat} {B : Bd} {w0 : World} {E : Env} {a : Act} {w : World}
theorem rep_one {d : DV} {v : Value} (h : Rep ok w d v) : v.oneCell' = true := by
  cases d <;> simp only [Rep] at h
  · rw [h]; rfl
  · rw [h]; rfl
  · rw [h]; rfl
  · obtain ⟨ad, cap, h, _⟩ := h; rw [h]; rfl
  · exact h.2.2
theorem all_one : ∀ {ds : List DV} {vs : List Value}, All2 (Rep ok w) ds vs → ∀ v ∈ vs, v.oneCell' = true
  | [], [], _, v, hv => by simp at hv
  | d :: ds, u :: vs, h, v, hv => by
    rcases List.mem_cons.1 hv with rfl | hv
    · exact rep_one h.1
    · exact all_one h.2 v hv
  | [], _ :: _, h, _, _ => h.elim
  | _ :: _, [], h, _, _ => h.elim
theorem own_full {B0 : Nat} {ok : Nat → Prop} {w : World} {e sz : Nat} {es : List (List DV)} {v : Value} (h : OwnRep B0 ok w e sz es v) :
    (v = .slice none 0 0 ∧ es = []) ∨ ∃ g cap cur, v = .slice (some ⟨g, 0, none⟩) es.length cap ∧ B0 ≤ g ∧ w.heap[g]? = some (.cells cur e (0, 0)) ∧ es.length ≤ cap ∧ cap ≤ maxLen ∧ cur.size = cap * sz ∧
      ¬ ok g ∧ All2 (Rep ok w) es.flatten (cur.toList.take (es.length * sz)) := by
  obtain ⟨h1, xs, ⟨hl, h2⟩, h3, h4⟩ := h
  rcases h2 with ⟨hv, hn⟩ | ⟨g, cap, cur, hv, hb, hg, hc, hm, hs, ht⟩
  · exact .inl ⟨hv, List.eq_nil_of_length_eq_zero hn⟩
  · exact .inr ⟨g, cap, cur, hv, hb, hg, hc, hm, hs, h4 g (by rw [hv]; rfl), by rw [ht]; exact h3⟩
theorem storeVar_run {t : TypeId} {b o : Nat} {v : Value} {cs : Array Value} {et : TypeId} (hs : szT P t = some v.cells.size) (hh : w.heap[b]? = some (.cells cs et (0, 0))) (hfit : o + v.cells.size ≤ cs.size)
    (h1 : ∀ u ∈ v.cells.toList, u.oneCell' = true) : (storeVar t ⟨b, o, none⟩ v).run P w = .ok () (w.setRow b (cs.toList.take o ++ v.cells.toList ++ cs.toList.drop (o + v.cells.size)).toArray) := by
  unfold szT at hs
  cases hi : P.info? t with
  | none => simp [hi] at hs
  | some i =>
    have e : i.size = v.cells.size := by simpa [hi] using hs
    have := run_storeCells_at (P := P) b o et v.cells.toList 0 cs w hh (by simpa using hfit) h1
    simp only [Nat.add_zero, Array.length_toList] at this
    simp [storeVar, sizeOf, typeInfo, hi, e, this]
theorem setRow_changed (w : World) (b : Nat) (cs : Array Value) : Changed b w (w.setRow b cs) :=
  ⟨rfl, rfl, rfl, by simp, fun k _ hk => setRow_other w b k cs hk⟩
theorem InvO.upd {n b0 : Nat} {s' : Slot} {w' : World} (h : InvO ok N B w0 E a w) (hc : Changed b0 w w') (hB : B.has b0) (hb : ¬ ok b0) (hbn : blkP (get E n) (tm a n) b0)
    (hs : SlotOK B ok w' a E s' (tm a n))
    (hk : (∃ ds ds', get E n = .box ds ∧ s' = .box ds') ∨ (∃ e sz bys es es', get E n = .own e sz bys es ∧ s' = .own e sz bys es' ∧ es'.length = es.length) ∨
      (∃ fr v0 bs e sz bys es es', get E n = .heap fr v0 bs e sz bys es ∧ s' = .heap fr v0 bs e sz bys es' ∧ es'.length = es.length)) :
    InvO ok N B w0 ((n, s') :: E) a w' where
  size := h.size
  defers := h.defers
  below := h.below.trans (hc.below hB h.base)
  base := Nat.le_trans h.base hc.size
  okLt b hok := Nat.lt_of_lt_of_le (h.okLt b hok) hc.size
  slot m := by
    by_cases hnm : n = m
    · subst hnm
      simp only [get, if_true]
      rcases hk with ⟨ds, ds', h1, h2⟩ | ⟨e, sz, bys, es, es', h1, h2, h3⟩ | ⟨fr, v0, bs, e, sz, bys, es, es', h1, h2, h3⟩
      · subst h2; exact hs
      · subst h2; exact hs
      · subst h2; exact hs
    · simp only [get, if_neg hnm]
      have hne : ¬ blkP (get E m) (tm a m) b0 := fun e => hnm (h.apart n m b0 hbn e)
      have := (h.slot m).changed hc h.okLt hb hne
      revert this
      generalize get E m = s
      intro hs'
      cases s with
      | al k =>
        obtain ⟨h1, e, sz, bys, es, h2⟩ := hs'
        refine ⟨h1, ?_⟩
        by_cases hk' : n = k
        · subst hk'
          rcases hk with ⟨ds, ds', h3, h4⟩ | ⟨e', sz', bys', es1, es', h3, h4, h5⟩ | ⟨_, _, _, _, _, _, _, _, h3, _⟩
          · rw [h3] at h2; simp at h2
          · exact ⟨e', sz', bys', es', by simp [get, h4]⟩
          · rw [h3] at h2; simp at h2
        · exact ⟨e, sz, bys, es, by simp [get, hk', h2]⟩
      | ref k o =>
        obtain ⟨b, ds, h1, h2, h3⟩ := hs'
        by_cases hk' : n = k
        · subst hk'
          rcases hk with ⟨ds1, ds', h4, h5⟩ | ⟨e', sz', bys', es1, es', h4, h5, h6⟩ | ⟨_, _, _, _, _, _, _, _, h4, _⟩
          · exact ⟨b, ds', h1, h2, by simp [get, h5]⟩
          · rw [h4] at h3; simp at h3
          · rw [h4] at h3; simp at h3
        · exact ⟨b, ds, h1, h2, by simp [get, hk', h3]⟩
      | oel k i o =>
        obtain ⟨b, len, cap, e, sz, bys, es, h1, h2, h3, h4⟩ := hs'
        by_cases hk' : n = k
        · subst hk'
          rcases hk with ⟨ds1, ds', h5, h6⟩ | ⟨e', sz', bys', es1, es', h5, h6, h7⟩ | ⟨_, _, _, _, _, _, _, _, h5, _⟩
          · rw [h5] at h3; simp at h3
          · rw [h5] at h3
            simp only [Slot.own.injEq] at h3
            obtain ⟨rfl, rfl, rfl, rfl⟩ := h3
            exact ⟨b, len, cap, e', sz', bys', es', h1, h2, by simp [get, h6], by omega⟩
          · rw [h5] at h3; simp at h3
        · exact ⟨b, len, cap, e, sz, bys, es, h1, h2, by simp [get, hk', h3], h4⟩
      | gp k i o =>
        obtain ⟨b, len, cap, fr, v0, bs, e, sz, bys, es, h1, h2, h3, h4⟩ := hs'
        by_cases hk' : n = k
        · subst hk'
          rcases hk with ⟨ds1, ds', h5, h6⟩ | ⟨_, _, _, _, _, h5, _⟩ | ⟨fr', v0', bs', e', sz', bys', es1, es', h5, h6, h7⟩
          · rw [h5] at h1; simp at h1
          · rw [h5] at h1; simp at h1
          · rw [h5] at h1
            simp only [Slot.heap.injEq] at h1
            obtain ⟨rfl, rfl, rfl, rfl, rfl, rfl, rfl⟩ := h1
            exact ⟨b, len, cap, fr', v0', bs', e', sz', bys', es', by simp [get, h6], h2, h3, by omega⟩
        · exact ⟨b, len, cap, fr, v0, bs, e, sz, bys, es, by simp [get, hk', h1], h2, h3, h4⟩
      | _ => exact hs'
  apart m m' b h1 h2 := by
    have key : ∀ k, blkP (get ((n, s') :: E) k) (tm a k) b → blkP (get E k) (tm a k) b := by
      intro k hk'
      by_cases hnk : n = k
      · subst hnk
        simp only [get, if_true] at hk'
        rcases hk with ⟨ds1, ds', h4, h5⟩ | ⟨e', sz', bys', es1, es', h4, h5, h6⟩ | ⟨_, _, _, _, _, _, _, _, h4, h5, _⟩
        · rw [h4]; rw [h5] at hk'; revert hk'; cases tm a n <;> first | exact id | (rename_i q; cases q <;> exact id)
        · rw [h4]; rw [h5] at hk'; exact hk'
        · rw [h4]; rw [h5] at hk'; exact hk'
      · simpa [get, hnk] using hk'
    exact h.apart m m' b (key m h1) (key m' h2)
theorem box_of {n : Nat} {ds : List DV} (h : InvO ok N B w0 E a w) (hg : get E n = .box ds) :
    ∃ b cs t, tm a n = .pointer (some ⟨b, 0, none⟩) ∧ B.n ≤ b ∧ ¬ ok b ∧ w.heap[b]? = some (.cells cs t (0, 0)) ∧ All2 (Rep ok w) ds cs.toList := by
  have := h.slot n
  rw [hg] at this
  exact this
theorem inv_sto_box {n o b : Nat} {ds ds' : List DV} {us : List Value} {cs : Array Value} {t : TypeId} (h : InvO ok N B w0 E a w) (hg : get E n = .box ds)
    (hv : tm a n = .pointer (some ⟨b, 0, none⟩)) (hB : B.n ≤ b) (hno : ¬ ok b) (hh : w.heap[b]? = some (.cells cs t (0, 0))) (hall : All2 (Rep ok w) ds cs.toList) (hu : All2 (Rep ok w) ds' us) (_hfit : o + ds'.length ≤ ds.length) :
    InvO ok N B w0 ((n, .box (ds.take o ++ ds' ++ ds.drop (o + ds'.length))) :: E) a (w.setRow b (cs.toList.take o ++ us ++ cs.toList.drop (o + us.length)).toArray) := by
  have hul := hu.length
  have hc := setRow_changed w b (cs.toList.take o ++ us ++ cs.toList.drop (o + us.length)).toArray
  have hk := hc.keeps h.okLt hno
  refine h.upd hc (.inl hB) hno (by rw [hg, hv]; rfl) ?_ (.inl ⟨_, _, hg, rfl⟩)
  refine ⟨b, _, t, hv, hB, hno, setRow_heap w b cs _ t _ hh, ?_⟩
  rw [hul]
  exact (All2.append _ _ _ _ (All2.append _ _ _ _ (hall.take o) hu) (hall.drop _)).mono (fun d v => Rep.mono hk d v)
theorem take_set_drop {α : Type} (l : List α) (o : Nat) (x : α) (h : o < l.length) : l.set o x = l.take o ++ [x] ++ l.drop (o + 1) := by
  rw [List.set_eq_take_append_cons_drop, if_pos h]; simp
theorem flatten_set {sz : Nat} : ∀ (es : List (List DV)) (i o : Nat) (ds' : List DV), (∀ r ∈ es, r.length = sz) → i < es.length → o + ds'.length ≤ sz →
    (es.set i ((es.getD i []).take o ++ ds' ++ (es.getD i []).drop (o + ds'.length))).flatten = es.flatten.take (i * sz + o) ++ ds' ++ es.flatten.drop (i * sz + o + ds'.length)
  | [], i, o, ds', _, hi, _ => by simp at hi
  | r :: rs, 0, o, ds', hl, _, ho => by
    have hr := hl r (by simp)
    simp only [List.set_cons_zero, List.flatten_cons, Nat.zero_mul, Nat.zero_add, List.getD_cons_zero]
    rw [List.take_append_of_le_length (by omega), List.drop_append_of_le_length (by omega)]
    simp
  | r :: rs, i + 1, o, ds', hl, hi, ho => by
    have hr := hl r (by simp)
    have ih := flatten_set rs i o ds' (fun r h => hl r (by simp [h])) (by simpa using hi) ho
    simp only [List.set_cons_succ, List.flatten_cons, List.getD_cons_succ]
    rw [ih, show (i + 1) * sz + o = r.length + (i * sz + o) by rw [hr, Nat.add_mul]; omega, List.take_length_add_append]
    rw [show r.length + (i * sz + o) + ds'.length = r.length + (i * sz + o + ds'.length) by omega, List.drop_length_add_append]
    simp
theorem inv_sto_own {n i o b cap e sz bys : Nat} {es : List (List DV)} {ds' : List DV} {us : List Value} {cur : Array Value} (h : InvO ok N B w0 E a w) (hg : get E n = .own e sz bys es)
    (hlen : ∀ r ∈ es, r.length = sz) (hv : tm a n = .slice (some ⟨b, 0, none⟩) es.length cap) (hB : B.n ≤ b) (hno : ¬ ok b) (hh : w.heap[b]? = some (.cells cur e (0, 0))) (hcap : es.length ≤ cap) (hcm : cap ≤ maxLen) (hcs : cur.size = cap * sz)
    (hall : All2 (Rep ok w) es.flatten (cur.toList.take (es.length * sz))) (hu : All2 (Rep ok w) ds' us) (hi : i < es.length) (hfit : o + ds'.length ≤ sz) :
    InvO ok N B w0 ((n, .own e sz bys (es.set i ((es.getD i []).take o ++ ds' ++ (es.getD i []).drop (o + ds'.length)))) :: E) a
      (w.setRow b (cur.toList.take (i * sz + o) ++ us ++ cur.toList.drop (i * sz + o + us.length)).toArray) := by
  have hul := hu.length
  have hc := setRow_changed w b (cur.toList.take (i * sz + o) ++ us ++ cur.toList.drop (i * sz + o + us.length)).toArray
  have hk := hc.keeps h.okLt hno
  have hle : i * sz + sz ≤ es.length * sz := by have := Nat.mul_le_mul_right sz (show i + 1 ≤ es.length from hi); rw [Nat.add_mul, Nat.one_mul] at this; exact this
  have hle2 : es.length * sz ≤ cap * sz := Nat.mul_le_mul_right sz hcap
  refine h.upd hc (.inl hB) hno (by rw [hg, hv]; rfl) ?_ (.inr (.inl ⟨_, _, _, _, _, hg, rfl, by simp⟩))
  refine ⟨fun r hr => ?_, (cur.toList.take (i * sz + o) ++ us ++ cur.toList.drop (i * sz + o + us.length)).take (es.length * sz), ⟨?_, .inr ⟨b, cap, _, by rw [hv]; simp, hB, setRow_heap w b cur _ e _ hh, by simpa using hcap, hcm, ?_, by simp⟩⟩, ?_, fun b' hb' => ?_⟩
  · rcases List.mem_or_eq_of_mem_set hr with hr | hr
    · exact hlen r hr
    · have hri : (es.getD i []).length = sz := by
        rw [List.getD_eq_getElem?_getD, List.getElem?_eq_getElem hi]; exact hlen _ (List.getElem_mem _)
      rw [hr]; simp at hri ⊢; omega
  · simp; omega
  · simp; omega
  · rw [flatten_set es i o ds' hlen hi hfit, hul]
    have e1 : (cur.toList.take (i * sz + o) ++ us ++ cur.toList.drop (i * sz + o + us.length)).take (es.length * sz) =
        (cur.toList.take (es.length * sz)).take (i * sz + o) ++ us ++ (cur.toList.take (es.length * sz)).drop (i * sz + o + us.length) := by
      have h1 : (cur.toList.take (i * sz + o)).length = i * sz + o := by simp; omega
      rw [List.append_assoc, show es.length * sz = (cur.toList.take (i * sz + o)).length + (es.length * sz - (i * sz + o)) by omega, List.take_length_add_append]
      rw [show es.length * sz - (i * sz + o) = us.length + (es.length * sz - (i * sz + o) - us.length) by omega, List.take_length_add_append]
      rw [h1, List.append_assoc, List.take_take, List.drop_take]
      congr 2
      · congr 1; omega
      · congr 1; omega
    rw [e1]
    exact (All2.append _ _ _ _ (All2.append _ _ _ _ (hall.take _) hu) (hall.drop _)).mono (fun d v => Rep.mono hk d v)
  · rw [hv] at hb'
    have : b = b' := by simpa [ownBlk] using hb'
    subst this; exact hno
theorem done_sto {o : Oper} {t : TypeId} {y z : Operand} {ad x : X} {E' : Env} (h : InvO ok N B w0 E a w) (ho : o.op = .store t y z) (hm : mx y ad = true) (hm' : mx z x = true) (hd : o.dst = none)
    {m0 : Nat} (hsz : szT P t = some m0) (hs : stp E none (.sto m0 ad x) = some E') : Done P ok N B w0 a w o E' := by
  have hpy := mx_ok h hm
  have hpz := mx_ok h hm'
  have run : ∀ (b off : Nat) (cs : Array Value) (et : TypeId), a.eval y = .pointer (some ⟨b, off, none⟩) → w.heap[b]? = some (.cells cs et (0, 0)) → off + (a.eval z).cells.size ≤ cs.size → szT P t = some (a.eval z).cells.size →
      (∀ u ∈ (a.eval z).cells.toList, u.oneCell' = true) → (execOp a.eval o).run P w = .ok .skip (w.setRow b (cs.toList.take off ++ (a.eval z).cells.toList ++ cs.toList.drop (off + (a.eval z).cells.size)).toArray) := by
    intro b off cs et hy hh hfit hsz' h1
    simp [execOp, ho, hy, Instr.storeAt, Instr.sureAddr, storeVar_run hsz' hh hfit h1]
  have hput : ∀ (a : Act), a.put none undef = a := fun _ => rfl
  simp only [stp] at hs
  split at hs
  · rename_i n off hva
    rw [hva] at hpy
    obtain ⟨b, ds, h1, h2, h3⟩ := hpy
    rw [h3] at hs
    dsimp only at hs
    obtain ⟨b', cs, et, h4, hB, hno, hh, hall⟩ := box_of h h3
    have hb : b' = b := by rw [h1] at h4; simp at h4; exact h4.symm
    subst hb
    have hdl := hall.length
    have fin : ∀ (ds' : List DV) (us : List Value) (E1 : Env) (ok1 : Nat → Prop), (a.eval z).cells.toList = us → All2 (Rep ok1 w) ds' us → off + ds'.length ≤ ds.length → szT P t = some (a.eval z).cells.size →
        InvO ok1 N B w0 E1 a w → (∀ b, ok1 b → ok b ∨ B.n ≤ b) → get E1 n = .box ds → ¬ ok1 b' → All2 (Rep ok1 w) ds cs.toList →
        Done P ok N B w0 a w o ((n, .box (ds.take off ++ ds' ++ ds.drop (off + ds'.length))) :: E1) := by
      intro ds' us E1 ok1 hus hu hfit hsz' hI1 hnew1 hg1 hno1 hall1
      have hul := hu.length
      have hcz : (a.eval z).cells.size = us.length := by rw [← hus]; simp
      have := run b' off cs et h2 hh (by rw [hcz]; simp at hdl; omega) hsz' (by rw [hus]; exact all_one hu)
      refine Done.skip this (ok' := ok1) hnew1 ?_
      rw [hd, hput, hus, hcz]
      exact inv_sto_box hI1 hg1 h4 hB hno1 hh hall1 hu hfit
    split at hs
    · rename_i d hv
      rw [hv] at hpz
      split at hs
      case isFalse => simp at hs
      rename_i hlt
      obtain ⟨rfl, hlt⟩ := hlt
      simp only [Option.some.injEq] at hs; subst hs
      rw [take_set_drop ds off d hlt]
      exact fin [d] [a.eval z] E ok (by rw [rep_cells hpz]) ⟨hpz, trivial⟩ (by simp; omega) (by rw [rep_cells hpz]; exact hsz) h (fun _ h => .inl h) h3 hno hall
    · rename_i dd hv
      rw [hv] at hpz
      obtain ⟨us, hy, hu⟩ := hpz
      split at hs
      case isFalse => simp at hs
      rename_i hle
      obtain ⟨rfl, hle⟩ := hle
      simp only [Option.some.injEq] at hs; subst hs
      exact fin dd us.toList E ok (by rw [hy]; simp [Value.cells]) hu hle (by rw [hsz, hu.length, hy]; simp [Value.cells]) h (fun _ h => .inl h) h3 hno hall
    · rename_i m hv
      have hzm := al_val h hm' hv
      split at hs
      case h_2 => simp at hs
      rename_i e sz bys es hio
      have hg := isOwn_some hio
      dsimp only at hg
      split at hs
      case isFalse => simp at hs
      rename_i hc
      obtain ⟨rfl, hlt, hnm⟩ := hc
      simp only [Option.some.injEq] at hs; subst hs
      obtain ⟨ok1, hup, hI1, hr1⟩ := h.freeze hg
      have hgn : get ((m, Slot.v (.sl sz es)) :: drop1 m E) n = .box ds := by
        simp only [get, if_neg (Ne.symm hnm), get_drop1]
        rw [h3]; simp [Ne.symm hnm, Slot.points]
      obtain ⟨b2, cs2, et2, h42, _, hno2, hh2, hall2⟩ := box_of hI1 hgn
      have hb2 : b2 = b' := by rw [h4] at h42; simp at h42; exact h42.symm
      subst hb2
      have hcs2 : cs2 = cs := by rw [hh] at hh2; simp at hh2; exact hh2.1.symm
      subst hcs2
      rw [take_set_drop ds off _ hlt]
      rw [hzm] at fin
      exact fin [.sl sz es] [tm a m] _ ok1 (by rw [rep_cells hr1]) ⟨hr1, trivial⟩ (by simp; omega) (by rw [rep_cells hr1]; exact hsz) hI1 hup hgn hno2 hall2
    · simp at hs
  · rename_i n i off hva
    rw [hva] at hpy
    obtain ⟨b, len, cap0, e0, sz0, bys0, es0, h1, h2, h3, h4⟩ := hpy
    split at hs
    case h_2 => simp at hs
    rename_i e sz bys es hio
    have hg := isOwn_some hio
    dsimp only at hg
    rw [hg] at h3
    simp only [Slot.own.injEq] at h3
    obtain ⟨rfl, rfl, rfl, rfl⟩ := h3
    have hn := h.slot n
    rw [hg] at hn
    have hlen := hn.1
    rcases own_full hn with ⟨h5, h6⟩ | ⟨g, cap, cur, h5, hB, hh, hcap, hcm, hcs, hno, hall⟩
    · subst h6; simp at h4
    have hgb : g = b := by rw [h1] at h5; simp at h5; exact h5.1.symm
    subst hgb
    have hle : i * sz + sz ≤ es.length * sz := by have := Nat.mul_le_mul_right sz (show i + 1 ≤ es.length from h4); rw [Nat.add_mul, Nat.one_mul] at this; exact this
    have hle2 : es.length * sz ≤ cap * sz := Nat.mul_le_mul_right sz hcap
    have fin : ∀ (ds' : List DV) (us : List Value), (a.eval z).cells.toList = us → All2 (Rep ok w) ds' us → off + ds'.length ≤ sz → szT P t = some (a.eval z).cells.size →
        Done P ok N B w0 a w o ((n, .own e sz bys (es.set i ((es.getD i []).take off ++ ds' ++ (es.getD i []).drop (off + ds'.length)))) :: E) := by
      intro ds' us hus hu hfit hsz'
      have hul := hu.length
      have hcz : (a.eval z).cells.size = us.length := by rw [← hus]; simp
      have := run g (i * sz + off) cur e h2 hh (by rw [hcz]; omega) hsz' (by rw [hus]; exact all_one hu)
      refine Done.skip this (ok' := ok) (fun _ h => .inl h) ?_
      rw [hd, hput, hus, hcz]
      exact inv_sto_own h hg hlen h5 hB hno hh hcap hcm hcs hall hu h4 hfit
    split at hs
    · rename_i d hv
      rw [hv] at hpz
      split at hs
      case isFalse => simp at hs
      rename_i hlt
      obtain ⟨rfl, hlt⟩ := hlt
      simp only [Option.some.injEq] at hs; subst hs
      have hri : (es.getD i []).length = sz := by
        rw [List.getD_eq_getElem?_getD, List.getElem?_eq_getElem h4]; exact hlen _ (List.getElem_mem _)
      rw [take_set_drop _ off d (by omega)]
      exact fin [d] [a.eval z] (by rw [rep_cells hpz]) ⟨hpz, trivial⟩ (by simp; omega) (by rw [rep_cells hpz]; exact hsz)
    · rename_i dd hv
      rw [hv] at hpz
      obtain ⟨us, hy, hu⟩ := hpz
      split at hs
      case isFalse => simp at hs
      rename_i hle'
      obtain ⟨rfl, hle'⟩ := hle'
      simp only [Option.some.injEq] at hs; subst hs
      exact fin dd us.toList (by rw [hy]; simp [Value.cells]) hu hle' (by rw [hsz, hu.length, hy]; simp [Value.cells])
    · simp at hs
  · simp at hs
end
end Go.Rd

namespace Go.Rd
open Go.RowKit
section
variable {P : Program} {ok : Nat → Prop} {N : Nat} {B : Bd} {w0 : World} {E : Env} {a : Act} {w : World}
theorem rows_vals {sz b : Nat} : ∀ (es : List (List DV)) (o : Nat), RepRows ok w sz b es o → ∃ vs : List Value, All2 (Rep ok w) es.flatten vs ∧ vs.length = es.length * sz ∧ ∀ j v, vs[j]? = some v → w.cell? ⟨b, o + j, none⟩ = some v
  | [], _, _ => ⟨[], trivial, by simp, by simp⟩
  | r :: rs, o, h => by
    simp only [RepRows] at h
    obtain ⟨hl, h1, h2⟩ := h
    obtain ⟨us, hu1, hu2⟩ := repRow_vals r o h1
    obtain ⟨vs, hv1, hv2, hv3⟩ := rows_vals rs (o + sz) h2
    have hul := hu1.length
    refine ⟨us ++ vs, by simpa using All2.append _ _ _ _ hu1 hv1, by simp [← hul, hl, hv2, Nat.add_mul]; omega, fun j v hj => ?_⟩
    by_cases hjl : j < us.length
    · rw [List.getElem?_append_left hjl] at hj
      exact hu2 j v hj
    · rw [List.getElem?_append_right (by omega)] at hj
      have := hv3 _ v hj
      rw [show o + j = o + sz + (j - us.length) by omega]
      exact this
theorem zero_size (z : Array Value) (n : Nat) : (Builtin.zeroCells z n).size = n * z.size := by simp [Builtin.zeroCells]
theorem run_app {t ty e sz bys m c : Nat} {i : TypeInfo} {z : Value} {es : List (List DV)} {v0 : Value} {ad : Addr} {news : List Value} (hu : P.underlying t = some (.slice e)) (hi : P.info? e = some i) (hz : i.zero = some z)
    (h1 : i.size = sz) (h2 : i.bytes = bys) (h3 : z.cells.size = sz) (hown : OwnRep B.n ok w e sz es v0) (hB : B.n ≤ w.heap.size) (hokl : ∀ b, ok b → b < w.heap.size)
    (hl : news.length = m * sz) (hnews : ∀ j u, news[j]? = some u → w.cell? (ad.add j) = some u) (hone : ∀ u ∈ news, u.oneCell' = true)
    (hb1 : (es.length + m) * bys ≤ 140737488355328) (hb2 : es.length + m ≤ 1099511627776) :
    ∃ v' w' xs, (Builtin.append_ #[t, t] ty #[v0, .slice (some ad) m c]).run P w = .ok v' w' ∧ w.grownBy w' (ownBlk v0) ∧ w'.ownsRow B.n e sz v' (es.length + m) (xs ++ news) ∧
      All2 (Rep ok w) es.flatten xs ∧ (∀ b, ownBlk v' = some b → ¬ ok b ∧ (ownBlk v0 = some b ∨ w.heap.size ≤ b)) := by
  subst h1 h2
  have hmx : es.length + m ≤ maxLen := by unfold maxLen; omega
  have grown : ∀ (xs : List Value) (old : Nat) (row : Option Nat), xs.length = es.length * i.size → old < es.length + m →
      w.grownBy (w.drew.alloc (.cells (xs.toArray ++ news.toArray ++ Builtin.zeroCells z.cells (grownCap w (es.length + m) old e - (es.length + m))) e)) row ∧
      (w.drew.alloc (.cells (xs.toArray ++ news.toArray ++ Builtin.zeroCells z.cells (grownCap w (es.length + m) old e - (es.length + m))) e)).ownsRow B.n e i.size
        (.slice (some ⟨w.heap.size, 0, none⟩) (es.length + m) (grownCap w (es.length + m) old e)) (es.length + m) (xs ++ news) := by
    intro xs old row hxl ho
    have hge := grownCap_ge w (es.length + m) old e
    have hle := grownCap_le_maxLen w (es.length + m) old e hmx
    refine ⟨⟨rfl, rfl, rfl, by simp, fun k hk _ => heap_alloc_old w.drew _ k hk⟩, by rw [List.length_append, hxl, hl, Nat.add_mul], .inr ⟨w.heap.size, _, _, rfl, hB, heap_alloc_new w.drew _, hge, hle, ?_, ?_⟩⟩
    · simp only [Array.size_append, List.size_toArray, zero_size, h3, hxl, hl, ← Nat.add_mul]
      congr 1; omega
    · simp only [Array.toList_append, List.append_assoc]
      rw [← List.append_assoc, show (es.length + m) * i.size = (xs ++ news).length by rw [List.length_append, hxl, hl, Nat.add_mul]]
      exact List.take_left
  have fr : ∀ b, ownBlk (.slice (some ⟨w.heap.size, 0, none⟩) (es.length + m) 0) = some b → ¬ ok b ∧ (ownBlk v0 = some b ∨ w.heap.size ≤ b) := by
    intro b hb
    have e1 : w.heap.size = b := by simpa [ownBlk] using hb
    subst e1
    exact ⟨fun hok => by have := hokl _ hok; omega, .inr (Nat.le_refl _)⟩
  rcases own_full hown with ⟨rfl, rfl⟩ | ⟨g, cap, cur, rfl, hBg, hg, hcap, hcm, hcs, hno, hall⟩
  · by_cases hm : m = 0
    · subst hm
      have hn : news = [] := List.eq_nil_of_length_eq_zero (by simpa using hl)
      subst hn
      refine ⟨.slice none 0 0, w, [], ?_, ⟨rfl, rfl, rfl, Nat.le_refl _, fun _ _ _ => rfl⟩, World.ownsRow_nil _ _ _ _, by simp [All2], fun b hb => by simp [ownBlk] at hb⟩
      simp [Builtin.append_, run_underlying hu, sizeOf, typeInfo, hi, Builtin.lenOf, Builtin.firstCells, loadCells, loadCellsFrom]
    · have hb3 : m * i.bytes ≤ 281474976710656 := by simp at hb1; omega
      have hr := run_append_nil (P := P) w t ty e i z hu hi hz ad m c news hl hnews (by omega) (by simp at hb2; omega) hb3
      obtain ⟨g1, g2⟩ := grown [] 0 (ownBlk (.slice none 0 0)) (by simp) (by simp; omega)
      simp only [List.length_nil, Nat.zero_add, List.nil_append, Array.empty_append] at g1 g2
      refine ⟨_, _, [], hr, g1, by simpa using g2, by simp [All2], ?_⟩
      simpa [ownBlk] using fr
  · by_cases hroom : es.length + m ≤ cap
    · have hfit : es.length * i.size + news.length ≤ cur.size := by rw [hl, hcs, ← Nat.add_mul]; exact Nat.mul_le_mul_right _ hroom
      have hr := run_append_room (P := P) w t ty e i hu hi g es.length cap cur hg ad m c news hl hnews hone hroom hfit
      refine ⟨_, _, cur.toList.take (es.length * i.size), hr, ⟨rfl, rfl, rfl, by simp, fun k _ hk => setRow_other w g k _ (fun e => hk (by simp [ownBlk, e]))⟩, ⟨?_, .inr ⟨g, cap, _, rfl, hBg, setRow_heap w g cur _ e _ hg, hroom, hcm, ?_, ?_⟩⟩, hall, fun b hb => ?_⟩
      · rw [List.length_append, List.length_take, hl, Nat.add_mul]; simp; omega
      · simp only [List.size_toArray, List.length_append, List.length_take, List.length_drop, Array.length_toList]; omega
      · have : (es.length + m) * i.size = (cur.toList.take (es.length * i.size) ++ news).length := by rw [List.length_append, List.length_take, hl, Nat.add_mul]; simp; omega
        rw [this]
        exact List.take_left
      · have e1 : g = b := by simpa [ownBlk] using hb
        subst e1
        exact ⟨hno, .inl rfl⟩
    · have hxl : (cur.toList.take (es.length * i.size)).length = es.length * i.size := by
        have := Nat.mul_le_mul_right i.size hcap; simp; omega
      have holds : ∀ j u, (cur.toList.take (es.length * i.size))[j]? = some u → w.cell? ((⟨g, 0, none⟩ : Addr).add j) = some u := by
        intro j u hj
        rw [addr_add, cell_off hg]
        rw [List.getElem?_take] at hj
        split at hj
        · simpa using hj
        · simp at hj
      have hr := run_append_grow (P := P) w t ty e i z hu hi hz ⟨g, 0, none⟩ es.length cap (cur.toList.take (es.length * i.size)) hxl holds ad m c news hl hnews (by omega) (by omega) (growslice_fits (by omega) hb1)
      obtain ⟨g1, g2⟩ := grown (cur.toList.take (es.length * i.size)) cap (ownBlk (.slice (some ⟨g, 0, none⟩) es.length cap)) hxl (by omega)
      exact ⟨_, _, _, hr, g1, g2, hall, by simpa [ownBlk] using fr⟩
theorem grown_changed {w' : World} {row : Option Nat} (h : w.grownBy w' row) : ∀ b0, (∀ b, row = some b → b = b0) → Changed b0 w w' :=
  fun b0 hb => ⟨h.os, h.tape, h.output, h.size, fun k hk hne => h.block k hk (fun e => hne (hb k e.symm))⟩
theorem done_app_core {o : Oper} {d t e sz bys : Nat} {y z : Operand} {es es' : List (List DV)} {E1 : Env} (hI : InvO ok N B w0 E1 a w) (ho : o.op = .call { callee := .builtin .append, args := #[y, z], argTypes := #[t, t] })
    (ht : ownT P t e sz bys = true) (hd : o.dst = some d) (hdN : d < N) (hp : okPut d .undef E1 = true) (hown : OwnRep B.n ok w e sz es (a.eval y)) (hfree : ∀ b, ownBlk (a.eval y) = some b → ∀ m, ¬ blkP (get E1 m) (tm a m) b)
    (hz : Rep ok w (.sl sz es') (a.eval z)) (hb1 : (es.length + es'.length) * bys ≤ 140737488355328) (hb2 : es.length + es'.length ≤ 1099511627776) : Done P ok N B w0 a w o ((d, .own e sz bys (es ++ es')) :: E1) := by
  obtain ⟨hu, i, zv, hi, hzz, h1, h2, h3, h4⟩ := ownT_ok ht
  simp only [Rep] at hz
  obtain ⟨ad, cap, hzv, hc, hr⟩ := hz
  have key : ∀ (v' : Value) (w' : World), (Builtin.append_ #[t, t] o.type #[a.eval y, a.eval z]).run P w = .ok v' w' → (execOp a.eval o).run P w = .ok (.value v') w' := by
    intro v' w' h
    simp [execOp, ho, resolve, invoke, builtin, h]
  have hlen' : ∀ r ∈ es', r.length = sz := by
    rcases hr with rfl | ⟨b, off, _, _, hr⟩
    · simp
    · have : ∀ (es : List (List DV)) (o : Nat), RepRows ok w sz b es o → ∀ r ∈ es, r.length = sz := by
        intro es
        induction es with
        | nil => intro o _ r hr; simp at hr
        | cons r rs ih =>
          intro o h r' hr'
          simp only [RepRows] at h
          rcases List.mem_cons.1 hr' with rfl | hr'
          · exact h.1
          · exact ih _ h.2.2 r' hr'
      exact this es' off hr
  have fin : ∀ (v' : Value) (w' : World) (xs news : List Value), (execOp a.eval o).run P w = .ok (.value v') w' → w.grownBy w' (ownBlk (a.eval y)) → w'.ownsRow B.n e sz v' (es.length + es'.length) (xs ++ news) →
      All2 (Rep ok w) es.flatten xs → All2 (Rep ok w) es'.flatten news → (∀ b, ownBlk v' = some b → ¬ ok b ∧ (ownBlk (a.eval y) = some b ∨ w.heap.size ≤ b)) → Done P ok N B w0 a w o ((d, .own e sz bys (es ++ es')) :: E1) := by
    intro v' w' xs news hrun hg hrow hx hn hbl
    have hI2 : InvO ok N B w0 E1 a w' := by
      cases hob : ownBlk (a.eval y) with
      | none =>
        have hw : Below w.heap.size w w' := Below.of_grown hg hob
        exact hI.grow hw ⟨fun _ h => h, fun _ h => .inl h, fun b hb => Nat.lt_of_lt_of_le (hI.okLt b hb) hw.size⟩
      | some b0 =>
        have hb0 := ownBlk_lt hown.2.choose_spec.1 hob
        exact hI.changed (grown_changed hg b0 (fun b hb => by rw [hob] at hb; simpa using hb.symm)) (.inl hb0.1) (hown.2.choose_spec.2.2 b0 hob) (hfree b0 hob)
    have hk : Keeps ok ok w w' := by
      intro b hb
      refine ⟨hb, fun off => World.cell?_of_block (w := w) (a := ⟨b, off, none⟩) (hg.block b (hI.okLt b hb) (fun e => ?_))⟩
      exact hown.2.choose_spec.2.2 b e.symm hb
    refine Done.value hrun (ok' := ok) (fun _ h => .inl h) ?_
    rw [hd]
    refine hI2.put hdN ?_ ⟨fun r hr => ?_, xs ++ news, by simpa using hrow, ?_, fun b hb => (hbl b hb).1⟩ (fun b hb m hm hbm => ?_)
    · simp only [okPut, Bool.or_eq_true, Bool.and_eq_true, Bool.not_eq_true'] at hp ⊢
      exact hp.imp_right fun h => ⟨h.1, rfl⟩
    · rcases List.mem_append.1 hr with hr | hr
      · exact hown.1 r hr
      · exact hlen' r hr
    · rw [List.flatten_append]
      exact All2.append _ _ _ _ (hx.mono (fun d v => Rep.mono hk d v)) (hn.mono (fun d v => Rep.mono hk d v))
    · have hb' : ownBlk v' = some b := by simpa [blkP] using hb
      rcases (hbl b hb').2 with h5 | h5
      · exact hfree b h5 m hbm
      · have := (blk_lt hI hbm).2.1; omega
  cases ad with
  | none =>
    have he : es' = [] := by
      rcases hr with h | ⟨b, off, h, _⟩
      · exact h
      · simp at h
    subst he
    obtain ⟨h5, xs, h6, h7, h8⟩ := hown
    have hrun : (Builtin.append_ #[t, t] o.type #[a.eval y, a.eval z]).run P w = .ok (a.eval y) w := by
      rw [hzv]
      rcases own_full ⟨h5, xs, h6, h7, h8⟩ with ⟨h9, _⟩ | ⟨g, cap', cur, h9, _, _, hnc, _⟩
      · rw [h9]; simp [Builtin.append_, run_underlying hu, sizeOf, typeInfo, hi, Builtin.lenOf, Builtin.firstCells]
      · rw [h9]; simp [Builtin.append_, run_underlying hu, sizeOf, typeInfo, hi, Builtin.lenOf, Builtin.firstCells, hnc, storeCells]
    exact fin _ w xs [] (key _ _ hrun) ⟨rfl, rfl, rfl, Nat.le_refl _, fun _ _ _ => rfl⟩ (by simpa using h6) h7 (by simp [All2]) (fun b hb => ⟨h8 b hb, .inl hb⟩)
  | some adr =>
    have hvals : ∃ news : List Value, All2 (Rep ok w) es'.flatten news ∧ news.length = es'.length * sz ∧ ∀ j v, news[j]? = some v → w.cell? (adr.add j) = some v := by
      rcases hr with rfl | ⟨b, off, h5, _, h6⟩
      · exact ⟨[], by simp [All2], by simp, by simp⟩
      · simp at h5; subst h5
        obtain ⟨vs, h7, h8, h9⟩ := rows_vals es' off h6
        exact ⟨vs, h7, h8, fun j v hj => by rw [addr_add]; exact h9 j v hj⟩
    obtain ⟨news, hn1, hn2, hn3⟩ := hvals
    obtain ⟨v', w', xs, hrun, hg, hrow, hx, hbl⟩ := run_app (P := P) (ty := o.type) (c := cap) hu hi hzz h1 h2 h3 hown hI.base hI.okLt hn2 hn3 (all_one hn1) hb1 hb2
    exact fin v' w' xs news (key _ _ (by rw [hzv]; exact hrun)) hg hrow hx hn1 hbl
theorem done_app {o : Oper} {d t e sz bys : Nat} {y z : Operand} {x u : X} {E' : Env} (h : InvO ok N B w0 E a w) (ho : o.op = .call { callee := .builtin .append, args := #[y, z], argTypes := #[t, t] })
    (ht : ownT P t e sz bys = true) (hm : mx y x = true) (hm' : mx z u = true) (hd : o.dst = some d) (hdN : d < N) (hs : stp E (some d) (.app e sz bys x u) = some E') : Done P ok N B w0 a w o E' := by
  have hpz := mx_ok h hm'
  simp only [stp] at hs
  split at hs
  · rename_i sz0
    split at hs
    case h_2 => simp at hs
    rename_i sz' es' hv
    rw [hv] at hpz
    split at hs
    case isFalse => simp at hs
    rename_i hc
    obtain ⟨hp, rfl, hb1, hb2⟩ := hc
    simp only [Option.some.injEq] at hs; subst hs
    have hy : a.eval y = .slice none 0 0 := by
      unfold mx at hm
      split at hm
      · simp at *
      · simp at *
      · simp at *
      · simp at *
      · rfl
      · simp at *
      · exact (Bool.false_ne_true hm).elim
    have := done_app_core (es := []) (es' := es') h ho ht hd hdN hp (by rw [hy]; exact ⟨by simp, [], World.ownsRow_nil _ _ _ _, by simp [All2], fun b hb => by simp [ownBlk] at hb⟩) (fun b hb => by rw [hy] at hb; simp [ownBlk] at hb) hpz (by simpa using hb1) (by simpa using hb2)
    simpa using this
  · rename_i x' hx
    split at hs
    case h_2 => simp at hs
    rename_i n sz' es' hv hv'
    rw [hv'] at hpz
    have hy := al_val h hm hv
    split at hs
    case h_2 => simp at hs
    rename_i e' sz'' bys' es hio
    have hg := isOwn_some hio
    dsimp only at hg
    split at hs
    case isFalse => simp at hs
    rename_i hc
    obtain ⟨rfl, rfl, rfl, rfl, hdn, hp, hb1, hb2⟩ := hc
    simp only [Option.some.injEq] at hs; subst hs
    have hn := h.slot n
    rw [hg] at hn
    refine done_app_core (h.forget1 n) ho ht hd hdN hp (by rw [hy]; exact hn) (fun b hb m hbm => ?_) hpz hb1 hb2
    rw [hy] at hb
    rw [get_drop1] at hbm
    split at hbm
    · simp [blkP] at hbm
    · rename_i hne
      exact hne (.inl (h.apart n m b (by rw [hg]; exact hb) hbm))
end
end Go.Rd

namespace Go.Rd
open Go.RowKit
def argV (E : Env) (x : X) : Option AV := match vw E x with
  | .v d => some (.v d)
  | .agg ds => some (.agg ds)
  | .row ds => some (.row ds)
  | .clo f caps => some (.clo f caps)
  | .al n => match get E n with
    | .own _ sz _ es => some (.v (.sl sz es))
    | _ => none
  | .ref n o => match get E n with
    | .box ds => some (.row (ds.drop o))
    | _ => none
  | _ => none
def argsV (E : Env) : List X → Option (List AV)
  | [] => some []
  | x :: xs => match argV E x, argsV E xs with
    | some v, some vs => some (v :: vs)
    | _, _ => none
def argsPure (E : Env) : List X → Bool
  | [] => true
  | x :: xs => (match vw E x with | .v _ | .agg _ | .row _ | .clo .. => true | _ => false) && argsPure E xs
def DV.scal : DV → Bool
  | .sl .. => false
  | _ => true
def scalRV : RV → Bool
  | .v d => d.scal
  | .agg ds => ds.all DV.scal
  | .own .. => false
def resSlot : List RV → Option Slot
  | [.v d] => some (.v d)
  | [.agg ds] => some (.agg ds)
  | [.own _ sz _ es] => some (.v (.sl sz es))
  | rs => if rs.all (fun | .own .. => false | _ => true) then some (.tup rs) else none
section
variable {P : Program} {ok : Nat → Prop} {N : Nat} {B : Bd} {w0 : World} {E : Env} {a : Act} {w : World}
def held (E : Env) (a : Act) (b : Nat) : Prop := ∃ n, blkP (get E n) (tm a n) b
theorem argV_ok (h : InvO ok N B w0 E a w) {y : Operand} {x : X} {v : AV} (hm : mx y x = true) (hv : argV E x = some v) : ArgOK (fun b => ok b ∨ held E a b) w v (a.eval y) := by
  have hs := mx_ok h hm
  have hk : Keeps ok (fun b => ok b ∨ held E a b) w w := fun b hb => ⟨.inl hb, fun _ => rfl⟩
  unfold argV at hv
  split at hv
  · rename_i d hd
    simp only [Option.some.injEq] at hv; subst hv
    rw [hd] at hs; exact Rep.mono hk d _ hs
  · rename_i ds hd
    simp only [Option.some.injEq] at hv; subst hv
    rw [hd] at hs; exact AggRep.mono hk hs
  · rename_i ds hd
    simp only [Option.some.injEq] at hv; subst hv
    rw [hd] at hs
    obtain ⟨b, o, h1, h2, h3⟩ := hs
    exact ⟨b, o, h1, .inl h2, RepRow.mono hk b h2 ds o h3⟩
  · rename_i f caps hd
    simp only [Option.some.injEq] at hv; subst hv
    rw [hd] at hs; exact CloOK.mono hk hs
  · rename_i n hd
    rw [hd] at hs
    split at hv
    case h_2 => simp at hv
    rename_i e sz bys es hg
    simp only [Option.some.injEq] at hv; subst hv
    have hn := h.slot n
    rw [hg] at hn
    simp only [ArgOK]
    rw [hs.1]
    exact own_rep hn (fun b hb => .inl hb) (fun b hb => .inr ⟨n, by rw [hg]; simpa [blkP] using hb⟩)
  · rename_i n o hd
    rw [hd] at hs
    split at hv
    case h_2 => simp at hv
    rename_i ds hg
    simp only [Option.some.injEq] at hv; subst hv
    obtain ⟨b, ds', h1, h2, h3⟩ := hs
    obtain ⟨b', cs, t, h4, hB, hno, hh, hall⟩ := box_of h hg
    have hb : b' = b := by rw [h1] at h4; simp at h4; exact h4.symm
    subst hb
    refine ⟨b', o, h2, .inr ⟨n, by rw [hg, h4]; rfl⟩, ?_⟩
    have hfull : RepRow (fun b => ok b ∨ held E a b) w b' ds 0 := row_of_flat ds 0 cs.toList (hall.mono (fun d v => Rep.mono hk d v)) (fun j v hj => by rw [cell_off hh]; simpa using hj)
    simpa using repRow_drop ds 0 o hfull
  · simp at hv
theorem argV_pure (h : InvO ok N B w0 E a w) {y : Operand} {x : X} {v : AV} (hm : mx y x = true) (hv : argV E x = some v) (hp : (match vw E x with | .v _ | .agg _ | .row _ | .clo .. => true | _ => false) = true) : ArgOK ok w v (a.eval y) := by
  have hs := mx_ok h hm
  unfold argV at hv
  split at hv
  · rename_i d hd
    simp only [Option.some.injEq] at hv; subst hv
    rw [hd] at hs; exact hs
  · rename_i ds hd
    simp only [Option.some.injEq] at hv; subst hv
    rw [hd] at hs; exact hs
  · rename_i ds hd
    simp only [Option.some.injEq] at hv; subst hv
    rw [hd] at hs; exact hs
  · rename_i f caps hd
    simp only [Option.some.injEq] at hv; subst hv
    rw [hd] at hs; exact hs
  · rename_i n hd; rw [hd] at hp; simp at hp
  · rename_i n o hd; rw [hd] at hp; simp at hp
  · simp at hv
def mxs : List Operand → List X → Bool
  | [], [] => true
  | y :: ys, x :: xs => mx y x && mxs ys xs
  | _, _ => false
theorem argsV_ok (h : InvO ok N B w0 E a w) : ∀ {ys : List Operand} {xs : List X} {vs : List AV}, mxs ys xs = true → argsV E xs = some vs → All2 (ArgOK (fun b => ok b ∨ held E a b) w) vs (ys.map a.eval)
  | [], [], vs, _, hv => by simp [argsV] at hv; subst hv; trivial
  | [], _ :: _, _, hm, _ => by simp [mxs] at hm
  | _ :: _, [], _, hm, _ => by simp [mxs] at hm
  | y :: ys, x :: xs, vs, hm, hv => by
    simp only [mxs, Bool.and_eq_true] at hm
    simp only [argsV] at hv
    split at hv
    case h_2 => simp at hv
    rename_i v vs' h1 h2
    simp only [Option.some.injEq] at hv; subst hv
    exact ⟨argV_ok h hm.1 h1, argsV_ok h hm.2 h2⟩
theorem argsV_pure (h : InvO ok N B w0 E a w) : ∀ {ys : List Operand} {xs : List X} {vs : List AV}, mxs ys xs = true → argsV E xs = some vs → argsPure E xs = true → All2 (ArgOK ok w) vs (ys.map a.eval)
  | [], [], vs, _, hv, _ => by simp [argsV] at hv; subst hv; trivial
  | [], _ :: _, _, hm, _, _ => by simp [mxs] at hm
  | _ :: _, [], _, hm, _, _ => by simp [mxs] at hm
  | y :: ys, x :: xs, vs, hm, hv, hp => by
    simp only [mxs, Bool.and_eq_true] at hm
    simp only [argsPure, Bool.and_eq_true] at hp
    simp only [argsV] at hv
    split at hv
    case h_2 => simp at hv
    rename_i v vs' h1 h2
    simp only [Option.some.injEq] at hv; subst hv
    exact ⟨argV_pure h hm.1 h1 hp.1, argsV_pure h hm.2 h2 hp.2⟩
theorem rep_scal {d : DV} {v : Value} {ok2 : Nat → Prop} {w2 : World} (hd : d.scal = true) (h : Rep ok w d v) : Rep ok2 w2 d v := by
  cases d with
  | sl => simp [DV.scal] at hd
  | own => simp [Rep] at h
  | _ => simpa [Rep] using h
theorem reps_scal {ok2 : Nat → Prop} {w2 : World} : ∀ {ds : List DV} {vs : List Value}, ds.all DV.scal = true → All2 (Rep ok w) ds vs → All2 (Rep ok2 w2) ds vs
  | [], [], _, _ => trivial
  | d :: ds, v :: vs, hd, h => by
    simp only [List.all_cons, Bool.and_eq_true] at hd
    exact ⟨rep_scal hd.1 h.1, reps_scal hd.2 h.2⟩
  | [], _ :: _, _, h => h.elim
  | _ :: _, [], _, h => h.elim
theorem rv_scal {r : RV} {v : Value} {ok2 : Nat → Prop} {B1 B2 : Nat} (hr : scalRV r = true) (h : RVOK B1 ok w r v) : RVOK B2 ok2 w r v := by
  cases r with
  | v d => exact rep_scal hr h
  | agg ds =>
    obtain ⟨cs, h1, h2⟩ := h
    exact ⟨cs, h1, reps_scal hr h2⟩
  | own => simp [scalRV] at hr
theorem rvs_scal {ok2 : Nat → Prop} {B1 B2 : Nat} : ∀ {rs : List RV} {vs : List Value}, rs.all scalRV = true → All2 (RVOK B1 ok w) rs vs → All2 (RVOK B2 ok2 w) rs vs
  | [], [], _, _ => trivial
  | r :: rs, v :: vs, hd, h => by
    simp only [List.all_cons, Bool.and_eq_true] at hd
    exact ⟨rv_scal hd.1 h.1, rvs_scal hd.2 h.2⟩
  | [], _ :: _, _, h => h.elim
  | _ :: _, [], _, h => h.elim
theorem res_scal {rs : List RV} {v : Value} {ok2 : Nat → Prop} {B1 B2 : Nat} (hr : rs.all scalRV = true) (h : ResOK B1 ok w rs v) : ResOK B2 ok2 w rs v := by
  match rs, h, hr with
  | [], h, hr =>
    obtain ⟨vs, h1, h2⟩ := h
    exact ⟨vs, h1, rvs_scal hr h2⟩
  | [r], h, hr =>
    simp only [List.all_cons, List.all_nil, Bool.and_true] at hr
    exact rv_scal hr h
  | r :: r' :: rs, h, hr =>
    obtain ⟨vs, h1, h2⟩ := h
    exact ⟨vs, h1, rvs_scal hr h2⟩
def callable (P : Program) (f : FuncId) : Bool := match P.funcs[f]? with
  | some fn => fn.name != "runtime.NumGoroutine" && fn.body.isSome
  | none => false
theorem caps_args {ok : Nat → Prop} {caps : List (List DV)} {vs : List Value} (h : CapsOK ok w caps vs) : All2 (ArgOK ok w) (caps.map .row) vs := by
  induction caps generalizing vs with
  | nil => cases vs with
    | nil => trivial
    | cons v vs => exact h.elim
  | cons c cs ih => cases vs with
    | nil => exact h.elim
    | cons v vs => exact ⟨h.1, ih h.2⟩
theorem CapsOK.up {ok ok' : Nat → Prop} {caps : List (List DV)} {vs : List Value} (h : CapsOK ok w caps vs) (hk : ∀ b, ok b → ok' b) : CapsOK ok' w caps vs :=
  All2.mono (fun ds v => fun ⟨b, o, h1, h2, h3⟩ => ⟨b, o, h1, hk b h2, RepRow.mono (fun b hb => ⟨hk b hb, fun _ => rfl⟩) b h2 ds o h3⟩) _ _ h
theorem call_core {o : Oper} {c : Call} {f : FuncId} {caps : List (List DV)} {cs : Array Value} {y : Operand} {xs : List X} {args : List AV} {res : List RV} (h : InvO ok N B w0 E a w) (ho : o.op = .call c) (hc : c.callee = .value y)
    (hy : a.eval y = .func (.func f) #[] cs) (hcaps : CapsOK ok w caps cs.toList) (hf : callable P f = true)
    (hm : mxs c.args.toList xs = true) (hav : argsV E xs = some args) (hOK : CallsOK P f (args ++ caps.map .row) res) (hmode : argsPure E xs = true ∨ res.all scalRV = true)
    (K : Act → World → Prop) (Q : Exit → Act → World → Prop)
    (hK : ∀ v w' ok', Below w.heap.size w w' → OkExt ok ok' w w' → ResOK w.heap.size ok' w' res v → K (a.put o.dst v) w') : o.wp P a w K Q := by
  unfold callable at hf
  split at hf
  case h_2 => exact (Bool.false_ne_true hf).elim
  rename_i fn hfn
  simp only [Bool.and_eq_true, bne_iff_ne, Option.isSome_iff_exists] at hf
  obtain ⟨hname, body, hbody⟩ := hf
  have hrun : (execOp a.eval o).run P w = .ok (.enter f (c.args.map a.eval ++ cs)) w := by
    simp [execOp, ho, resolve, hc, hy, Deferred.ofValue, invoke, callFunc, hfn, hname, hbody]
  unfold Oper.wp
  rw [hrun, Oper.upon_enter]
  rcases hmode with hp | hp
  · have hargs := argsV_pure h hm hav hp
    refine (hOK ok w (c.args.map a.eval ++ cs) h.okLt (by simpa using All2.append _ _ _ _ hargs (caps_args hcaps))).mono ?_
    rintro e w' ⟨v, ok', rfl, hb, h1, h2, h3, h4⟩
    exact hK v w' ok' hb ⟨h2, h3, h1⟩ h4
  · have hargs := argsV_ok h hm hav
    refine (hOK (fun b => ok b ∨ held E a b) w (c.args.map a.eval ++ cs) (fun b hb => ?_) (by simpa using All2.append _ _ _ _ hargs (caps_args (hcaps.up fun b hb => .inl hb)))).mono ?_
    · rcases hb with hb | ⟨n, hb⟩
      · exact h.okLt b hb
      · exact (blk_lt h hb).2.1
    · rintro e w' ⟨v, ok', rfl, hb, h1, h2, h3, h4⟩
      exact hK v w' ok hb ⟨fun _ h => h, fun _ h => .inl h, fun b hok => Nat.lt_of_lt_of_le (h.okLt b hok) hb.size⟩ (res_scal hp h4)
theorem rvok_tup {B2 : Nat} : ∀ {rs : List RV} {vs : List Value}, rs.all (fun | .own .. => false | _ => true) = true → All2 (RVOK B2 ok w) rs vs → All2 (RVOK' ok w) rs vs
  | [], [], _, _ => trivial
  | r :: rs, v :: vs, hd, h => by
    simp only [List.all_cons, Bool.and_eq_true] at hd
    refine ⟨?_, rvok_tup hd.2 h.2⟩
    cases r with
    | v d => exact h.1
    | agg ds => exact h.1
    | own => simp at hd
  | [], _ :: _, _, h => h.elim
  | _ :: _, [], _, h => h.elim
theorem loc_call {o : Oper} {c : Call} {f : FuncId} {caps : List (List DV)} {cs : Array Value} {y : Operand} {xs : List X} {args : List AV} {res : List RV} {s : Slot} (h : InvO ok N B w0 E a w) (ho : o.op = .call c) (hc : c.callee = .value y)
    (hy : a.eval y = .func (.func f) #[] cs) (hcaps : CapsOK ok w caps cs.toList) (hf : callable P f = true)
    (hm : mxs c.args.toList xs = true) (hav : argsV E xs = some args) (hOK : CallsOK P f (args ++ caps.map .row) res) (hmode : argsPure E xs = true ∨ res.all scalRV = true) (hs : resSlot res = some s)
    (K : Act → World → Prop) (Q : Exit → Act → World → Prop)
    (hK : ∀ v w' ok', Below w.heap.size w w' → OkExt ok ok' w w' → SlotOK B ok' w' a E s v → K (a.put o.dst v) w') : o.wp P a w K Q := by
  refine call_core h ho hc hy hcaps hf hm hav hOK hmode K Q (fun v w' ok' hb hx hr => ?_)
  unfold resSlot at hs
  split at hs
  · simp only [Option.some.injEq] at hs; subst hs
    exact hK v w' ok' hb hx hr
  · simp only [Option.some.injEq] at hs; subst hs
    exact hK v w' ok' hb hx hr
  · rename_i e sz bys es
    simp only [Option.some.injEq] at hs; subst hs
    have hr' : OwnRep w.heap.size ok' w' e sz es v := hr
    refine hK v w' (fun b => ok' b ∨ ownBlk v = some b) hb ⟨fun b hb => .inl (hx.up b hb), fun b hb => ?_, fun b hb => ?_⟩ (own_rep hr' (fun b hb => .inl hb) (fun b hb => .inr hb))
    · rcases hb with hb | hb
      · exact hx.new b hb
      · exact .inr (ownBlk_lt hr'.2.choose_spec.1 hb).1
    · rcases hb with hb | hb
      · exact hx.lt b hb
      · exact (ownBlk_lt hr'.2.choose_spec.1 hb).2
  · rename_i h1 h2 h3
    split at hs
    case isFalse => simp at hs
    rename_i hall
    simp only [Option.some.injEq] at hs; subst hs
    have hr' : ∃ vs : Array Value, v = .tuple vs ∧ All2 (RVOK w.heap.size ok' w') res vs.toList := by
      match res, hr, h1, h2, h3 with
      | [], hr, _, _, _ => exact hr
      | [.v d], _, h1, _, _ => exact absurd rfl (h1 d)
      | [.agg ds], _, _, h2, _ => exact absurd rfl (h2 ds)
      | [.own e sz bys es], _, _, _, h3 => exact absurd rfl (h3 e sz bys es)
      | r :: r' :: rs, hr, _, _, _ => exact hr
    obtain ⟨vs, h4, h5⟩ := hr'
    exact hK v w' ok' hb hx ⟨vs, h4, rvok_tup hall h5⟩
theorem ownsRow_base {B' : Nat} {e size n : Nat} {v : Value} {xs : List Value} (h : w.ownsRow B' e size v n xs) (hB : B.n ≤ B') : w.ownsRow B.n e size v n xs := by
  refine ⟨h.1, ?_⟩
  rcases h.2 with hn | ⟨g, cap, cur, hv, hb, r⟩
  · exact .inl hn
  · exact .inr ⟨g, cap, cur, hv, by omega, r⟩
theorem done_callo {o : Oper} {d : Nat} {c : Call} {f : FuncId} {xs : List X} {args : List AV} {e sz bys : Nat} {es : List (List DV)} (h : InvO ok N B w0 E a w) (ho : o.op = .call c) (hc : c.callee = .value (.func f)) (hf : callable P f = true)
    (hm : mxs c.args.toList xs = true) (hav : argsV E xs = some args) (hOK : CallsOK P f args [.own e sz bys es]) (hp : argsPure E xs = true) (hd : o.dst = some d) (hdN : d < N) (hput : okPut d .undef E = true) :
    Done P ok N B w0 a w o ((d, .own e sz bys es) :: E) := by
  intro K Q hK
  refine call_core (caps := []) (cs := #[]) h ho hc (by simp [Act.eval]) trivial hf hm hav (by simpa using hOK) (.inl hp) K Q (fun v w' ok' hb hx hr => ?_)
  have hr' : OwnRep w.heap.size ok' w' e sz es v := hr
  have h' := h.grow hb hx
  refine hK ok' _ w' ?_ (fun b hb => (hx.new b hb).imp_right (fun h1 => Nat.le_trans h.base h1))
  rw [hd]
  refine h'.put hdN ?_ ⟨hr'.1, hr'.2.choose, ownsRow_base hr'.2.choose_spec.1 h.base, hr'.2.choose_spec.2.1, hr'.2.choose_spec.2.2⟩ (fun b hbs n hn hbn => ?_)
  · simp only [okPut, Bool.or_eq_true, Bool.and_eq_true, Bool.not_eq_true'] at hput ⊢
    exact hput.imp_right fun h => ⟨h.1, rfl⟩
  · have h1 := (ownBlk_lt hr'.2.choose_spec.1 (by simpa [blkP] using hbs)).1
    have h2 := (blk_lt h hbn).2.1
    omega
end
end Go.Rd

namespace Go.Rd
open Go.RowKit
section
variable {P : Program} {ok : Nat → Prop} {N : Nat} {B : Bd} {w0 : World} {E : Env} {a : Act} {w : World}
theorem els_full (h : InvO ok N B w0 E a w) {y : Operand} {x : X} {es : List (List DV)} (hm : mx y x = true) (hv : vEls E x = some es) :
    ∃ ad cap vs, a.eval y = .slice ad es.length cap ∧ (ad = none → es = []) ∧ All2 (Rep ok w) es.flatten vs ∧ (es = [] ∨ ∃ b o, ad = some ⟨b, o, none⟩ ∧ ∀ j v, vs[j]? = some v → w.cell? ⟨b, o + j, none⟩ = some v) := by
  have hs := mx_ok h hm
  unfold vEls at hv
  split at hv
  · rename_i sz es' he
    simp only [Option.some.injEq] at hv; subst hv
    rw [he] at hs
    simp only [SlotOK, Rep] at hs
    obtain ⟨ad, cap, hs, _, hr⟩ := hs
    rcases hr with rfl | ⟨b, o, rfl, hb, hr⟩
    · exact ⟨ad, cap, [], hs, fun _ => rfl, trivial, .inl rfl⟩
    · obtain ⟨vs, h1, _, h2⟩ := rows_vals es' o hr
      exact ⟨_, cap, vs, hs, fun h => by simp at h, h1, .inr ⟨b, o, rfl, h2⟩⟩
  · rename_i n he
    rw [he] at hs
    obtain ⟨hs, _⟩ := hs
    split at hv
    · rename_i e sz bys es' hg
      simp only [Option.some.injEq] at hv; subst hv
      have hn := h.slot n
      rw [hg] at hn
      rw [hs]
      rcases own_val hn with ⟨h1, rfl⟩ | ⟨g, cap, cur, h1, _, hh, hc, hsz, _, hall⟩
      · exact ⟨none, 0, [], by rw [h1]; rfl, fun _ => rfl, trivial, .inl rfl⟩
      · refine ⟨_, cap, _, h1, fun h => by simp at h, hall, .inr ⟨g, 0, rfl, fun j v hj => ?_⟩⟩
        rw [cell_off hh]
        rw [List.getElem?_take] at hj
        split at hj
        · simpa using hj
        · simp at hj
    · exact (Option.some_ne_none _ hv.symm).elim
  · exact (Option.some_ne_none _ hv.symm).elim
def chkIsn (P : Program) (op : BinOp) (t : TypeId) (neg : Bool) : Bool := decide (op = if neg then .neq else .eql) && (elemT P t).isSome
theorem gives_isn {op : BinOp} {t t' : TypeId} {y z : Operand} {neg : Bool} {x : X} {s : Slot} (h : InvO ok N B w0 E a w) (hm : mx y x = true) (hz : mx z (.nil 0) = true) (hc : chkIsn P op t neg = true)
    (he : ev E (.isn neg x) = some s) : Gives P ok B E a w (.binOp op t y z t') s := by
  simp only [chkIsn, Bool.and_eq_true, decide_eq_true_eq] at hc
  obtain ⟨hop, ht⟩ := hc
  have hz' : a.eval z = .slice none 0 0 := by
    unfold mx at hz
    split at hz
    · simp at *
    · simp at *
    · simp at *
    · simp at *
    · rfl
    · simp at *
    · exact (Bool.false_ne_true hz).elim
  obtain ⟨e, ht⟩ := Option.isSome_iff_exists.mp ht
  have hu : P.underlying t = some (.slice e) := by
    unfold elemT at ht
    split at ht
    · rename_i hu; simp at ht; subst ht; exact hu
    · simp at ht
  intro d ty pos af gd
  simp only [ev] at he
  cases hv : vEls E x with
  | none => simp [hv] at he
  | some es =>
    rw [hv] at he
    simp only [Option.map_some, Option.some.injEq] at he; subst he
    obtain ⟨ad, cap, vs, hy, hnil, _, hcell⟩ := els_full h hm hv
    have hr : (Op.equal t (a.eval y) (a.eval z)).run P w = .ok ad.isNone w := by
      rw [hy, hz']
      cases ad with
      | none => change (Op.equalIn (9999 + 1) t _ _).run P w = _; rw [Op.equalIn]; simp [run_underlying hu]
      | some q => change (Op.equalIn (9999 + 1) t _ _).run P w = _; rw [Op.equalIn]; simp [run_underlying hu]
    cases neg with
    | true =>
      simp only [if_true] at hop
      subst hop
      refine ⟨.bool (!ad.isNone), ?_, ⟨!ad.isNone, rfl, fun _ => trivial, fun hb => hnil (by simpa using hb)⟩⟩
      rw [hy, hz'] at hr
      simp [execOp, eqGuard, binOp, hy, hz', hr]
    | false =>
      simp only [Bool.false_eq_true, if_false] at hop
      subst hop
      refine ⟨.bool ad.isNone, ?_, ⟨ad.isNone, rfl, fun hb => hnil (by simpa using hb), fun _ => trivial⟩⟩
      rw [hy, hz'] at hr
      simp [execOp, eqGuard, binOp, hy, hz', hr]
theorem bytesOf_vals : ∀ {es : List (List DV)} {l : List UInt8} {vs : List Value}, bytesOf es = some l → All2 (Rep ok w) es.flatten vs → ∃ ns : List Int, vs = ns.map (Value.int .u8) ∧ ns.map (fun n => UInt8.ofNat n.toNat) = l ∧ vs.length = es.length
  | [], l, vs, hb, h => by
    simp [bytesOf] at hb; subst hb
    cases vs with
    | nil => exact ⟨[], rfl, rfl, rfl⟩
    | cons => exact h.elim
  | [.int .u8 n] :: es, l, vs, hb, h => by
    simp only [bytesOf, Option.map_eq_some_iff] at hb
    obtain ⟨l', h1, rfl⟩ := hb
    cases vs with
    | nil => exact h.elim
    | cons v vs =>
      obtain ⟨ns, h2, h3, h4⟩ := bytesOf_vals h1 h.2
      have hv : v = .int .u8 n := by simpa [Rep] using h.1
      exact ⟨n :: ns, by rw [hv, h2]; rfl, by simp [h3], by simp [h4]⟩
def chkB2s (P : Program) (src dst : TypeId) : Bool := (match elemT P src with | some e => (match P.underlying e with | some (.int .u8) => true | _ => false) | none => false) && (match P.underlying dst with | some .string => true | _ => false)
theorem gives_b2s {src dst : TypeId} {y : Operand} {x : X} {s : Slot} (h : InvO ok N B w0 E a w) (hm : mx y x = true) (hc : chkB2s P src dst = true) (he : ev E (.b2s x) = some s) : Gives P ok B E a w (.convert src dst y) s := by
  simp only [chkB2s, Bool.and_eq_true] at hc
  obtain ⟨h1, h2⟩ := hc
  split at h1
  case h_2 => exact (Bool.false_ne_true h1).elim
  rename_i e hel
  split at h1
  case h_2 => exact (Bool.false_ne_true h1).elim
  rename_i hue
  split at h2
  case h_2 => exact (Bool.false_ne_true h2).elim
  rename_i hud
  have hu : P.underlying src = some (.slice e) := by
    unfold elemT at hel
    split at hel
    · rename_i hu; simp at hel; subst hel; exact hu
    · simp at hel
  simp only [ev] at he
  split at he
  case h_2 => simp at he
  rename_i es hv
  simp only [Option.map_eq_some_iff] at he
  obtain ⟨l, hb, rfl⟩ := he
  obtain ⟨ad, cap, vs, hy, hnil, hall, hcell⟩ := els_full h hm hv
  obtain ⟨ns, hvs, hns, hlen⟩ := bytesOf_vals hb hall
  intro d ty pos af gd
  refine ⟨.string ⟨⟨l⟩⟩, ?_, by simp [SlotOK, Rep]⟩
  have key : (convert src dst (a.eval y)).run P w = .ok (.string ⟨⟨l⟩⟩) w := by
    rw [hy]
    cases ad with
    | none =>
      have he0 := hnil rfl
      subst he0
      simp [bytesOf] at hb; subst hb
      exact run_convert_bytes_nil w src e hu hue _ _ dst hud
    | some q =>
      rw [run_convert_bytes_string w src dst e _ _ _ hu hue hud]
      have hl : (loadCells q es.length).run P w = .ok (ns.map (Value.int .u8)).toArray w := by
        rcases hcell with rfl | ⟨b, o, hq, hcell⟩
        · simp at hlen
          subst hlen
          have : ns = [] := by simpa using hvs.symm
          subst this
          have := run_loadCells_list (P := P) w q [] (fun j v hj => by simp at hj)
          simpa using this
        · simp only [Option.some.injEq] at hq; subst hq
          have := run_loadCells_list (P := P) w ⟨b, o, none⟩ vs (fun j v hj => by rw [addr_add]; exact hcell j v hj)
          rw [← hlen, this, hvs]
      rw [run_bytesToString w q es.length cap ns hl, foldl_push_bytes, hns]
      simp [ByteArray.empty, ByteArray.emptyWithCapacity]
      rfl
  simp [execOp, key]
theorem gives_mnx {b : Bool} {y z : Operand} {ts : Array TypeId} {x u : X} {s : Slot} (h : InvO ok N B w0 E a w) (hm : mx y x = true) (hm' : mx z u = true) (he : ev E (.mnx b x u) = some s) :
    Gives P ok B E a w (.call { callee := .builtin (if b then .max else .min), args := #[y, z], argTypes := ts }) s := by
  intro d ty pos af gd
  simp only [ev] at he
  split at he
  case h_2 => simp at he
  rename_i k i k' j hx hu
  simp only [Option.some.injEq] at he; subst he
  have h1 := mx_ok h hm
  have h2 := mx_ok h hm'
  rw [hx] at h1
  rw [hu] at h2
  have e1 : a.eval y = .int k i := by simpa [SlotOK, Rep] using h1
  have e2 : a.eval z = .int k' j := by simpa [SlotOK, Rep] using h2
  refine ⟨.int k (if b then (if j > i then j else i) else (if j < i then j else i)), ?_, by simp only [SlotOK, Rep]⟩
  cases b
  · simp [execOp, resolve, invoke, builtin, Builtin.min_, Builtin.min2, e1, e2]
  · simp [execOp, resolve, invoke, builtin, Builtin.max_, Builtin.max2, e1, e2]
end
end Go.Rd

namespace Go.Rd
open Go.RowKit
def chkCall (P : Program) : Callee → List Operand → List TypeId → AOp → Bool
  | .builtin .append, [y, z], [t, t'], .app e sz bys x u => t == t' && ownT P t e sz bys && mx y x && mx z u
  | .builtin b, ys, ts, g => chkB P b ys ts g
  | .value (.func f'), ys, _, .call f xs => f' == f && callable P f && mxs ys xs
  | .value (.func f'), ys, _, .callo f xs => f' == f && callable P f && mxs ys xs
  | .value y, ys, _, .callv x xs => mx y x && mxs ys xs
  | _, _, _, _ => false
def intMap (P : Program) (t : TypeId) : Bool := match P.underlying t with
  | some (.map k e) => (match P.underlying k, P.underlying e, P.info? e with | some (.int .i64), some (.int .i64), some i => (match i.zero with | some (.int .i64 0) => true | _ => false) | _, _, _ => false)
  | _ => false
def chkS2b (P : Program) (src dst e : TypeId) : Bool := match P.underlying src, P.underlying dst with
  | some .string, some (.slice e') => e' == e && (match P.underlying e with | some (.int .u8) => true | _ => false)
  | _, _ => false
def chkOp (P : Program) : Op → AOp → Bool
  | .alloc t, .alc ds => zeroIs P t ds
  | .box _ y, .box x => mx y x
  | .makeSlice t y y', .mks e sz bys zero n => ownT P t e sz bys && zeroIs P e zero && mx y n && mx y' n
  | .assign y, .nilo _ _ _ => mx y (.nil 0)
  | .buildSlice t n parts, .bslo e sz _ rows => chkBsl P t n parts.toList e sz rows
  | .buildSlice t n parts, .bsl sz rows => (match elemT P t with | some e => chkBsl P t n parts.toList e sz rows | none => false)
  | .assign y, .asg _ x => mx y x
  | .move y, .asg _ x => mx y x
  | .store t y z, .sto n ad x => mx y ad && mx z x && szT P t == some n
  | .build t parts, .bld zero ps => chkBld P t parts.toList zero ps
  | .binOp op t y z _, .isn neg x => mx y x && mx z (.nil 0) && chkIsn P op t neg
  | .convert src dst y, .b2s x => mx y x && chkB2s P src dst
  | .convert src dst y, .s2b e x => mx y x && chkS2b P src dst e
  | .makeFunc fn first caps, .mkf f' xs => (match fn with | .func f => f == f' | _ => false) && first.size == 0 && mxs caps.toList xs
  | .makeMap t r, .mkm t' => r.isNone && t == t' && intMap P t
  | .mapUpdate t m k v, .mpu t' m' k' v' => t == t' && intMap P t && mx m m' && mx k k' && mx v v'
  | .lookup t m k ok, .mpl t' m' k' => !ok && t == t' && intMap P t && mx m m' && mx k k'
  | .call c, g => chkCall P c.callee c.args.toList c.argTypes.toList g
  | op, g => chk P op g
def AOp.spec : AOp → Bool
  | .alc _ | .box _ | .mks .. | .nilo .. | .bslo .. | .asg .. | .sto .. | .app .. => true
  | _ => false
def CallV (P : Program) (E : Env) (f : FuncId) (xs : List X) (s : Slot) : Prop :=
  ∃ args res, argsV E xs = some args ∧ CallsOK P f args res ∧ (argsPure E xs = true ∨ res.all scalRV = true) ∧ resSlot res = some s
inductive StepR (P : Program) : Option Nat → AOp → Env → Env → Prop
  | pure {d : Nat} {g : AOp} {E : Env} {s : Slot} : ev E g = some s → okPut d s E = true → StepR P (some d) g E ((d, s) :: E)
  | spec {dst : Option Nat} {g : AOp} {E E' : Env} : stp E dst g = some E' → StepR P dst g E E'
  | call {d : Nat} {f : FuncId} {xs : List X} {E : Env} {s : Slot} : CallV P E f xs s → okPut d s E = true → StepR P (some d) (.call f xs) E ((d, s) :: E)
  | callv {d : Nat} {x : X} {f : FuncId} {caps : List (List DV)} {xs : List X} {args : List AV} {rs : List RV} {E : Env} {s : Slot} : vw E x = .clo f caps → argsV E xs = some args → callable P f = true → CallsOK P f (args ++ caps.map .row) rs →
      (argsPure E xs = true ∨ rs.all scalRV = true) → resSlot rs = some s → okPut d s E = true → StepR P (some d) (.callv x xs) E ((d, s) :: E)
  | callo {d : Nat} {f : FuncId} {xs : List X} {args : List AV} {e sz bys : Nat} {es : List (List DV)} {E : Env} : argsV E xs = some args → CallsOK P f args [.own e sz bys es] → argsPure E xs = true → okPut d .undef E = true →
      StepR P (some d) (.callo f xs) E ((d, .own e sz bys es) :: E)
section
variable {P : Program} {ok : Nat → Prop} {N : Nat} {B : Bd} {w0 : World} {E : Env} {a : Act} {w : World}
theorem vw_excl (E : Env) (x : X) : (vw E x).excl = false := by
  cases x with
  | t n => simp only [vw]; cases get E n <;> rfl
  | c d => rfl
  | nil sz => rfl
  | fn f => rfl
theorem ev_excl {g : AOp} {s : Slot} (h : ev E g = some s) : s.excl = false := by
  cases g <;> simp only [ev, reduceCtorEq] at h
  all_goals (first | (simp only [Option.some.injEq] at h; subst h; exact vw_excl _ _) | skip)
  all_goals (repeat' split at h)
  all_goals (first
    | (simp at h; done)
    | (simp only [Option.some.injEq] at h; subst h; first | rfl | exact vw_excl _ _)
    | (simp only [Option.map_eq_some_iff] at h; obtain ⟨_, _, h⟩ := h; subst h; rfl))
theorem gives_pure {op : Op} {g : AOp} {s : Slot} (h : InvO ok N B w0 E a w) (hc : chkOp P op g = true) (hb : ∀ sz rows, g ≠ .bsl sz rows) (he : ev E g = some s) : Gives P ok B E a w op s := by
  unfold chkOp at hc
  split at hc
  case h_1 => simp [ev] at he
  case h_2 => simp [ev] at he
  case h_3 => simp [ev] at he
  case h_4 => simp [ev] at he
  case h_5 => simp [ev] at he
  case h_6 => exact absurd rfl (hb _ _)
  case h_7 => simp [ev] at he
  case h_8 => simp [ev] at he
  case h_9 => simp [ev] at he
  case h_10 => exact gives_bld h hc he
  case h_11 =>
    simp only [Bool.and_eq_true] at hc
    exact gives_isn h hc.1.1 hc.1.2 hc.2 he
  case h_12 =>
    simp only [Bool.and_eq_true] at hc
    exact gives_b2s h hc.1 hc.2 he
  case h_13 => simp [ev] at he
  case h_14 => simp [ev] at he
  case h_15 => simp [ev] at he
  case h_16 => simp [ev] at he
  case h_17 => simp [ev] at he
  case h_18 =>
    rename_i c
    unfold chkCall at hc
    split at hc
    · simp [ev] at he
    · rename_i b hcal _
      unfold chkB at hc
      obtain ⟨callee, args, tys⟩ := c
      simp only at hcal hc
      subst hcal
      split at hc
      · rename_i y t x h1 h2 _
        have e1 : args = #[y] := by apply Array.toList_inj.1; simpa using h1
        have e2 : tys = #[t] := by apply Array.toList_inj.1; simpa using h2
        subst e1 e2
        exact gives_len h (by simpa [chkB] using hc) he
      · rename_i y t x h1 h2 _
        have e1 : args = #[y] := by apply Array.toList_inj.1; simpa using h1
        have e2 : tys = #[t] := by apply Array.toList_inj.1; simpa using h2
        subst e1 e2
        exact gives_slen h (by simpa [chkB] using hc) he
      · rename_i y z x u h1 _
        have e1 : args = #[y, z] := by apply Array.toList_inj.1; simpa using h1
        subst e1
        simp only [Bool.and_eq_true] at hc
        exact gives_mnx (b := true) h hc.1 hc.2 he
      · rename_i y z x u h1 _
        have e1 : args = #[y, z] := by apply Array.toList_inj.1; simpa using h1
        subst e1
        simp only [Bool.and_eq_true] at hc
        exact gives_mnx (b := false) h hc.1 hc.2 he
      · exact (Bool.false_ne_true hc).elim
    · simp [ev] at he
    · simp [ev] at he
    · simp [ev] at he
    · exact (Bool.false_ne_true hc).elim
  case h_19 =>
    have hc' := hc
    unfold chk at hc'
    split at hc'
    · simp only [ev, Option.some.injEq] at he; subst he; exact gives_mv h hc
    · simp only [ev, Option.some.injEq] at he; subst he; exact gives_mva h hc
    · exact gives_pick h hc he
    · exact gives_fld h hc he
    · exact gives_idx h hc he
    · exact gives_ld h hc he
    · exact gives_lda h hc he
    · exact gives_bin h hc he
    · exact gives_eqb h hc he
    · exact gives_eqa h hc he
    · exact gives_not h hc he
    · exact gives_sidx h hc he
    · exact gives_ssub h hc he
    · exact gives_ssl h hc he
    · exact gives_ext h hc he
    · exact gives_cvi h hc he
    · exact (Bool.false_ne_true hc').elim
theorem done_of_gives {o : Oper} {d : Nat} {s : Slot} (h : InvO ok N B w0 E a w) (hd : o.dst = some d) (hdN : d < N) (hp : okPut d s E = true) (hx : s.excl = false) (hg : Gives P ok B E a w o.op s) : Done P ok N B w0 a w o ((d, s) :: E) := by
  obtain ⟨dst, op, ty, pos, af, gd⟩ := o
  obtain ⟨v, hr, hs⟩ := hg dst ty pos af gd
  refine Done.value hr (ok' := ok) (fun _ h => .inl h) ?_
  simp only at hd
  subst hd
  exact h.put hdN hp hs (fun b hb => absurd hb (blkP_none hx))
theorem resSlot_excl {rs : List RV} {s : Slot} (h : resSlot rs = some s) : s.excl = false := by
  unfold resSlot at h
  split at h
  · simp only [Option.some.injEq] at h; subst h; rfl
  · simp only [Option.some.injEq] at h; subst h; rfl
  · simp only [Option.some.injEq] at h; subst h; rfl
  · split at h
    · simp only [Option.some.injEq] at h; subst h; rfl
    · simp at h
theorem InvO.loc {d : Nat} {s : Slot} {v : Value} {w' : World} {ok' : Nat → Prop} (h : InvO ok N B w0 E a w) (hb : Below w.heap.size w w') (hx : OkExt ok ok' w w') (hdN : d < N) (hp : okPut d s E = true) (hex : s.excl = false)
    (hs : SlotOK B ok' w' a E s v) : InvO ok' N B w0 ((d, s) :: E) (a.put (some d) v) w' :=
  (h.grow hb hx).put hdN hp hs (fun b hbb => absurd hbb (blkP_none hex))
theorem chk_bsl {op : Op} {sz : Nat} {rows : List X} (h : chkOp P op (.bsl sz rows) = true) : ∃ t n parts e, op = .buildSlice t n parts ∧ elemT P t = some e ∧ chkBsl P t n parts.toList e sz rows = true := by
  cases op <;> try (simp [chkOp, chk] at h; done)
  case buildSlice t n parts =>
    simp only [chkOp] at h
    split at h
    · rename_i e he; exact ⟨t, n, parts, e, rfl, he, h⟩
    · simp at h
  case call c =>
    simp only [chkOp] at h
    unfold chkCall at h
    split at h
    · contradiction
    · unfold chkB at h; split at h
      · contradiction
      · contradiction
      · contradiction
      · contradiction
      · simp at h
    · contradiction
    · contradiction
    · contradiction
    · simp at h
theorem chk_call {op : Op} {f : FuncId} {xs : List X} (h : chkOp P op (.call f xs) = true) : ∃ c, op = .call c ∧ c.callee = .value (.func f) ∧ callable P f = true ∧ mxs c.args.toList xs = true := by
  cases op <;> try (simp [chkOp, chk] at h; done)
  case call c =>
    simp only [chkOp] at h
    unfold chkCall at h
    split at h
    · contradiction
    · unfold chkB at h; split at h
      · contradiction
      · contradiction
      · contradiction
      · contradiction
      · simp at h
    · rename_i hcal hg
      simp only [AOp.call.injEq] at hg
      obtain ⟨rfl, rfl⟩ := hg
      simp only [Bool.and_eq_true, beq_iff_eq] at h
      obtain ⟨⟨rfl, h1⟩, h2⟩ := h
      exact ⟨c, rfl, hcal, h1, h2⟩
    · contradiction
    · contradiction
    · simp at h
theorem chk_callo {op : Op} {f : FuncId} {xs : List X} (h : chkOp P op (.callo f xs) = true) : ∃ c, op = .call c ∧ c.callee = .value (.func f) ∧ callable P f = true ∧ mxs c.args.toList xs = true := by
  cases op <;> try (simp [chkOp, chk] at h; done)
  case call c =>
    simp only [chkOp] at h
    unfold chkCall at h
    split at h
    · contradiction
    · unfold chkB at h; split at h
      · contradiction
      · contradiction
      · contradiction
      · contradiction
      · simp at h
    · contradiction
    · rename_i hcal hg
      simp only [AOp.callo.injEq] at hg
      obtain ⟨rfl, rfl⟩ := hg
      simp only [Bool.and_eq_true, beq_iff_eq] at h
      obtain ⟨⟨rfl, h1⟩, h2⟩ := h
      exact ⟨c, rfl, hcal, h1, h2⟩
    · contradiction
    · simp at h
theorem chk_callv {op : Op} {x : X} {xs : List X} (h : chkOp P op (.callv x xs) = true) : ∃ c y, op = .call c ∧ c.callee = .value y ∧ mx y x = true ∧ mxs c.args.toList xs = true := by
  cases op <;> try (simp [chkOp, chk] at h; done)
  case call c =>
    simp only [chkOp] at h
    unfold chkCall at h
    split at h
    · contradiction
    · unfold chkB at h; split at h
      · contradiction
      · contradiction
      · contradiction
      · contradiction
      · simp at h
    · contradiction
    · contradiction
    · rename_i hcal hg
      simp only [AOp.callv.injEq] at hg
      obtain ⟨rfl, rfl⟩ := hg
      simp only [Bool.and_eq_true] at h
      exact ⟨c, _, rfl, hcal, h.1, h.2⟩
    · simp at h
theorem chk_app {op : Op} {e sz bys : Nat} {x u : X} (h : chkOp P op (.app e sz bys x u) = true) : ∃ y z t, op = .call { callee := .builtin .append, args := #[y, z], argTypes := #[t, t] } ∧ ownT P t e sz bys = true ∧ mx y x = true ∧ mx z u = true := by
  cases op <;> try (simp [chkOp, chk] at h; done)
  case call c =>
    obtain ⟨callee, args, tys⟩ := c
    simp only [chkOp] at h
    unfold chkCall at h
    split at h
    · rename_i y z t t' _ _ _ _ _ hargs htys hg
      simp only [AOp.app.injEq] at hg
      obtain ⟨rfl, rfl, rfl, rfl, rfl⟩ := hg
      simp only [Bool.and_eq_true, beq_iff_eq] at h
      obtain ⟨⟨⟨rfl, h1⟩, h2⟩, h3⟩ := h
      have e1 : args = #[y, z] := by apply Array.toList_inj.1; simpa using hargs
      have e2 : tys = #[t, t] := by apply Array.toList_inj.1; simpa using htys
      subst e1 e2
      exact ⟨y, z, t, rfl, h1, h2, h3⟩
    · unfold chkB at h; split at h
      · contradiction
      · contradiction
      · contradiction
      · contradiction
      · simp at h
    · contradiction
    · contradiction
    · contradiction
    · simp at h
theorem not_call_chk {c : Call} {g : AOp} (h : chkOp P (.call c) g = true) : (∃ x, g = .len x) ∨ (∃ x, g = .slen x) ∨ (∃ f xs, g = .call f xs) ∨ (∃ f xs, g = .callo f xs) ∨ (∃ e sz bys x u, g = .app e sz bys x u) ∨ (∃ x xs, g = .callv x xs) ∨ ∃ b x y, g = .mnx b x y := by
  simp only [chkOp] at h
  unfold chkCall at h
  split at h
  · exact .inr (.inr (.inr (.inr (.inl ⟨_, _, _, _, _, rfl⟩))))
  · unfold chkB at h; split at h
    · exact .inl ⟨_, rfl⟩
    · exact .inr (.inl ⟨_, rfl⟩)
    · exact .inr (.inr (.inr (.inr (.inr (.inr ⟨_, _, _, rfl⟩)))))
    · exact .inr (.inr (.inr (.inr (.inr (.inr ⟨_, _, _, rfl⟩)))))
    · simp at h
  · exact .inr (.inr (.inl ⟨_, _, rfl⟩))
  · exact .inr (.inr (.inr (.inl ⟨_, _, rfl⟩)))
  · exact .inr (.inr (.inr (.inr (.inr (.inl ⟨_, _, rfl⟩)))))
  · simp at h
theorem step_done {o : Oper} {g : AOp} {dst : Option Nat} {E' : Env} (h : InvO ok N B w0 E a w) (hd : o.dst = dst) (hdN : ∀ d, dst = some d → d < N) (hc : chkOp P o.op g = true) (hs : StepR P dst g E E') : Done P ok N B w0 a w o E' := by
  cases hs with
  | @pure d g E s he hp =>
    by_cases hb : ∃ sz rows, g = .bsl sz rows
    · obtain ⟨sz, rows, rfl⟩ := hb
      simp only [ev, Option.map_eq_some_iff] at he
      obtain ⟨es, hl, rfl⟩ := he
      obtain ⟨t, n, parts, e, ho, _, hc⟩ := chk_bsl hc
      obtain ⟨v, w', ok', hr, hbw, hx, hsl⟩ := loc_bsl (d := d) h ho hc hl
      refine Done.value hr (ok' := ok') (fun b hb => (hx.new b hb).imp_right (fun h1 => Nat.le_trans h.base h1)) ?_
      rw [hd]
      exact h.loc hbw hx (hdN d rfl) hp rfl hsl
    · exact done_of_gives h hd (hdN d rfl) hp (ev_excl he) (gives_pure h hc (fun sz rows e => hb ⟨sz, rows, e⟩) he)
  | spec he =>
    cases g <;> cases dst <;> try (simp [stp] at he; done)
    case alc.some ds d =>
      simp only [stp] at he
      split at he
      case isFalse => simp at he
      rename_i hp
      simp only [Option.some.injEq] at he; subst he
      generalize hop : o.op = op at hc
      cases op <;> try (simp [chkOp, chk] at hc; done)
      case alloc t => exact done_alc h hop hd (hdN d rfl) hp (by simpa [chkOp] using hc)
      case call c => rcases not_call_chk hc with ⟨_, h⟩ | ⟨_, h⟩ | ⟨_, _, h⟩ | ⟨_, _, h⟩ | ⟨_, _, _, _, _, h⟩ | ⟨_, _, h⟩ | ⟨_, _, _, h⟩ <;> simp at h
    case box.some x d =>
      simp only [stp] at he
      split at he
      case isFalse => simp at he
      rename_i hp
      generalize hop : o.op = op at hc
      cases op <;> try (simp [chkOp, chk] at hc; done)
      case call c => rcases not_call_chk hc with ⟨_, h⟩ | ⟨_, h⟩ | ⟨_, _, h⟩ | ⟨_, _, h⟩ | ⟨_, _, _, _, _, h⟩ | ⟨_, _, h⟩ | ⟨_, _, _, h⟩ <;> simp at h
      case box t y =>
        split at he
        · rename_i dv hv
          simp only [Option.some.injEq] at he; subst he
          exact done_box h hop (by simpa [chkOp] using hc) hd (hdN d rfl) hp (.inl ⟨dv, hv, rfl⟩)
        · rename_i ds hv
          simp only [Option.some.injEq] at he; subst he
          exact done_box h hop (by simpa [chkOp] using hc) hd (hdN d rfl) hp (.inr hv)
        · simp at he
    case mks.some e sz bys zero n d =>
      simp only [stp] at he
      split at he
      case isFalse => simp at he
      rename_i hp
      split at he
      case h_2 => simp at he
      rename_i k hk
      split at he
      case isFalse => simp at he
      rename_i hb
      simp only [Option.some.injEq] at he; subst he
      generalize hop : o.op = op at hc
      cases op <;> try (simp [chkOp, chk] at hc; done)
      case call c => rcases not_call_chk hc with ⟨_, h⟩ | ⟨_, h⟩ | ⟨_, _, h⟩ | ⟨_, _, h⟩ | ⟨_, _, _, _, _, h⟩ | ⟨_, _, h⟩ | ⟨_, _, _, h⟩ <;> simp at h
      case makeSlice t y y' =>
        simp only [chkOp, Bool.and_eq_true] at hc
        exact done_mks h hop hc.2 hc.1.1.1 hc.1.1.2 hc.1.2 hd (hdN d rfl) hp hk hb.1 hb.2.1 hb.2.2
    case nilo.some e sz bys d =>
      simp only [stp] at he
      split at he
      case isFalse => simp at he
      rename_i hp
      simp only [Option.some.injEq] at he; subst he
      generalize hop : o.op = op at hc
      cases op <;> try (simp [chkOp, chk] at hc; done)
      case call c => rcases not_call_chk hc with ⟨_, h⟩ | ⟨_, h⟩ | ⟨_, _, h⟩ | ⟨_, _, h⟩ | ⟨_, _, _, _, _, h⟩ | ⟨_, _, h⟩ | ⟨_, _, _, h⟩ <;> simp at h
      case assign y =>
        have hm : mx y (.nil 0) = true := by simpa [chkOp] using hc
        have hy : a.eval y = .slice none 0 0 := by
          unfold mx at hm
          split at hm
          · simp at *
          · simp at *
          · simp at *
          · simp at *
          · rfl
          · simp at *
          · exact (Bool.false_ne_true hm).elim
        exact done_nilo h (.inl hop) hy hd (hdN d rfl) hp
    case bslo.some e sz bys rows d =>
      simp only [stp] at he
      split at he
      case isFalse => simp at he
      rename_i hp
      simp only [Option.map_eq_some_iff] at he
      obtain ⟨es, hl, rfl⟩ := he
      generalize hop : o.op = op at hc
      cases op <;> try (simp [chkOp, chk] at hc; done)
      case call c => rcases not_call_chk hc with ⟨_, h⟩ | ⟨_, h⟩ | ⟨_, _, h⟩ | ⟨_, _, h⟩ | ⟨_, _, _, _, _, h⟩ | ⟨_, _, h⟩ | ⟨_, _, _, h⟩ <;> simp at h
      case buildSlice t n parts => exact done_bslo h hop (by simpa [chkOp] using hc) hd (hdN d rfl) hp hl
    case asg.some take x d =>
      generalize hop : o.op = op at hc
      cases op <;> try (simp [chkOp, chk] at hc; done)
      case call c => rcases not_call_chk hc with ⟨_, h⟩ | ⟨_, h⟩ | ⟨_, _, h⟩ | ⟨_, _, h⟩ | ⟨_, _, _, _, _, h⟩ | ⟨_, _, h⟩ | ⟨_, _, _, h⟩ <;> simp at h
      case assign y => exact done_asg h (.inl hop) (by simpa [chkOp] using hc) hd (hdN d rfl) he
      case move y => exact done_asg h (.inr hop) (by simpa [chkOp] using hc) hd (hdN d rfl) he
    case sto.none n ad x =>
      generalize hop : o.op = op at hc
      cases op <;> try (simp [chkOp, chk] at hc; done)
      case call c => rcases not_call_chk hc with ⟨_, h⟩ | ⟨_, h⟩ | ⟨_, _, h⟩ | ⟨_, _, h⟩ | ⟨_, _, _, _, _, h⟩ | ⟨_, _, h⟩ | ⟨_, _, _, h⟩ <;> simp at h
      case store t y z =>
        simp only [chkOp, Bool.and_eq_true, beq_iff_eq] at hc
        exact done_sto h hop hc.1.1 hc.1.2 hd hc.2 he
    case app.some e sz bys x u d =>
      obtain ⟨y, z, t, hop, ht, hm, hm'⟩ := chk_app hc
      exact done_app h hop ht hm hm' hd (hdN d rfl) he
  | @call d f xs E s hv hp =>
    obtain ⟨args, res, hav, hOK, hmode, hrs⟩ := hv
    obtain ⟨c, hop, hcal, hcb, hm⟩ := chk_call hc
    intro K Q hK
    refine loc_call (caps := []) (cs := #[]) h hop hcal (by simp [Act.eval]) trivial hcb hm hav (by simpa using hOK) hmode hrs K Q (fun v w' ok' hb hx hsl => hK ok' _ w' ?_ (fun b hb => (hx.new b hb).imp_right (fun h1 => Nat.le_trans h.base h1)))
    rw [hd]
    exact h.loc hb hx (hdN d rfl) hp (resSlot_excl hrs) hsl
  | @callv d x f caps xs args rs E s hx hav hcb hOK hmode hrs hp =>
    obtain ⟨c, y, hop, hcal, hmy, hm⟩ := chk_callv hc
    have hcl := mx_ok h hmy
    rw [hx] at hcl
    obtain ⟨cs, hy, hcaps⟩ := hcl
    intro K Q hK
    refine loc_call h hop hcal hy hcaps hcb hm hav hOK hmode hrs K Q (fun v w' ok' hb hx hsl => hK ok' _ w' ?_ (fun b hb => (hx.new b hb).imp_right (fun h1 => Nat.le_trans h.base h1)))
    rw [hd]
    exact h.loc hb hx (hdN d rfl) hp (resSlot_excl hrs) hsl
  | @callo d f xs args e sz bys es E hav hOK hpure hp =>
    obtain ⟨c, hop, hcal, hcb, hm⟩ := chk_callo hc
    exact done_callo h hop hcal hcb hm hav hOK hpure hd (hdN d rfl) hp
end
end Go.Rd

namespace Go.Rd
open Go.RowKit
def skipE (dst : Option Nat) (E : Env) : Option Env := match dst with
  | some d => if okPut d .undef E then some ((d, .skp) :: E) else none
  | none => some E
def unw (s : Slot) (b : Bool) : Prop := (∃ b', s = .v (.bool b') ∧ b' ≠ b) ∨ s = .skp
inductive Ops (P : Program) : List GOp → Env → Env → Prop
  | nil {E : Env} : Ops P [] E E
  | step {g : GOp} {gs : List GOp} {E E1 E2 : Env} : g.guard = none → StepR P g.dst g.op E E1 → Ops P gs E1 E2 → Ops P (g :: gs) E E2
  | gyes {g : GOp} {gs : List GOp} {n : Nat} {b : Bool} {E E1 E2 : Env} : g.guard = some (n, b) → get E n = .v (.bool b) → StepR P g.dst g.op E E1 → Ops P gs E1 E2 → Ops P (g :: gs) E E2
  | gno {g : GOp} {gs : List GOp} {n : Nat} {b : Bool} {E E1 E2 : Env} : g.guard = some (n, b) → unw (get E n) b → skipE g.dst E = some E1 → Ops P gs E1 E2 → Ops P (g :: gs) E E2
abbrev Gh := (Nat → Value) × (Nat → List Nat)
def SemStep (P : Program) (dst : Option Nat) (op : AOp) (E : Env) (E1 : Gh → Env) : Prop :=
  ∀ (ok : Nat → Prop) (N : Nat) (B : Bd) (w0 : World) (a : Act) (w : World) (o : Oper), InvO ok N B w0 E a w → o.dst = dst → (∀ d, dst = some d → d < N) → chkOp P o.op op = true →
    ∀ (K : Act → World → Prop) (Q : Exit → Act → World → Prop), (∀ u ok' a' w', InvO ok' N B w0 (E1 u) a' w' → (∀ b, ok' b → ok b ∨ B.n ≤ b) → K a' w') → o.wp P a w K Q
def Ghost (E : Env) (E1 : Gh → Env) : Prop :=
  ∀ (ok : Nat → Prop) (N : Nat) (B : Bd) (w0 : World) (a : Act) (w : World), InvO ok N B w0 E a w → ∃ u ok', InvO ok' N B w0 (E1 u) a w ∧ ∀ b, ok' b → ok b ∨ B.n ≤ b
inductive OpsK (P : Program) (K : Env → Prop) : List GOp → Env → Prop
  | nil {E : Env} : K E → OpsK P K [] E
  | run {g : GOp} {gs : List GOp} {E : Env} {E1 : Gh → Env} : g.guard = none → SemStep P g.dst g.op E E1 → (∀ u, OpsK P K gs (E1 u)) → OpsK P K (g :: gs) E
  | yes {g : GOp} {gs : List GOp} {n : Nat} {b : Bool} {E : Env} : g.guard = some (n, b) → get E n = .v (.bool b) → OpsK P K (⟨g.dst, none, g.op⟩ :: gs) E → OpsK P K (g :: gs) E
  | no {g : GOp} {gs : List GOp} {n : Nat} {b : Bool} {E E1 : Env} : g.guard = some (n, b) → unw (get E n) b → skipE g.dst E = some E1 → OpsK P K gs E1 → OpsK P K (g :: gs) E
  | gh {l : List GOp} {E : Env} {E1 : Gh → Env} : Ghost E E1 → (∀ u, OpsK P K l (E1 u)) → OpsK P K l E
def chkG (P : Program) (N : Nat) (ops : Array Oper) (o : Oper) (g : GOp) : Bool :=
  o.dst == g.dst && (match g.dst with | some d => decide (d < N) | none => true) && chkOp P o.op g.op &&
    (match o.guard, g.guard with
      | none, none => true
      | some (j, b), some (n, b') => (ops[j]?).bind (·.dst) == some n && b == b'
      | _, _ => false)
def chkGs (P : Program) (N : Nat) (ops : Array Oper) : List Oper → List GOp → Bool
  | [], [] => true
  | o :: os, g :: gs => chkG P N ops o g && chkGs P N ops os gs
  | _, _ => false
section
variable {P : Program} {ok : Nat → Prop} {N : Nat} {B : Bd} {w0 : World} {E : Env} {a : Act} {w : World}
theorem InvO.congr (h : InvO ok N B w0 E a w) {E' : Env} (he : ∀ n, get E' n = get E n) : InvO ok N B w0 E' a w :=
  h.weaken (fun n => .inl (he n)) (fun _ m _ _ => he m)
theorem InvO.skip (h : InvO ok N B w0 E a w) {dst : Option Nat} {E1 : Env} (hdN : ∀ d, dst = some d → d < N) (hs : skipE dst E = some E1) : InvO ok N B w0 E1 (a.put dst undef) w := by
  cases dst with
  | none => simp only [skipE, Option.some.injEq] at hs; subst hs; exact h
  | some d =>
    simp only [skipE] at hs
    split at hs
    case isFalse => simp at hs
    rename_i hp
    simp only [Option.some.injEq] at hs; subst hs
    exact h.put (hdN d rfl) hp rfl (fun b hb => by simp [blkP] at hb)
theorem wanted_iff {ops : Array Oper} {o : Oper} {g : GOp} (h : InvO ok N B w0 E a w) (hc : chkG P N ops o g = true) :
    (g.guard = none → Region.wanted o (yielded ops a.tmps) = true) ∧
    ∀ n b b', g.guard = some (n, b) → get E n = .v (.bool b') → Region.wanted o (yielded ops a.tmps) = (b' == b) := by
  simp only [chkG, Bool.and_eq_true] at hc
  obtain ⟨_, hg⟩ := hc
  refine ⟨fun hn => ?_, fun n b b' hgd hget => ?_⟩
  · rw [hn] at hg
    split at hg
    · rename_i ho _; simp [Region.wanted, ho]
    · rename_i h1; simp at h1
    · simp at hg
  · rw [hgd] at hg
    split at hg
    · rename_i h1; simp at h1
    · rename_i j b1 n1 b2 ho h1
      simp only [Option.some.injEq, Prod.mk.injEq] at h1
      obtain ⟨rfl, rfl⟩ := h1
      simp only [Bool.and_eq_true, beq_iff_eq] at hg
      obtain ⟨hd, rfl⟩ := hg
      have hs := h.slot n
      rw [hget] at hs
      have hv : tm a n = .bool b' := by simpa [SlotOK, Rep] using hs
      have hv2 : a.tmps[n]? = some (.bool b') := by
        unfold tm at hv
        rw [Array.getD_eq_getD_getElem?] at hv
        cases hq : a.tmps[n]? with
        | none => rw [hq] at hv; simp [undef] at hv
        | some v => rw [hq] at hv; simpa using hv
      simp only [Region.wanted, ho, yielded, hd, Option.bind_some, hv2]
      cases b' <;> cases b1 <;> rfl
    · simp at hg
theorem wanted_no {ops : Array Oper} {o : Oper} {g : GOp} (h : InvO ok N B w0 E a w) (hc : chkG P N ops o g = true) {n : Nat} {b : Bool} (hgd : g.guard = some (n, b)) (hu : unw (get E n) b) : Region.wanted o (yielded ops a.tmps) = false := by
  rcases hu with ⟨b', hget, hne⟩ | hget
  · rw [(wanted_iff h hc).2 n b b' hgd hget]; simpa using hne
  · simp only [chkG, Bool.and_eq_true] at hc
    obtain ⟨_, hg⟩ := hc
    rw [hgd] at hg
    split at hg
    · rename_i h1; simp at h1
    · rename_i j b1 n1 b2 ho h1
      simp only [Option.some.injEq, Prod.mk.injEq] at h1
      obtain ⟨rfl, rfl⟩ := h1
      simp only [Bool.and_eq_true, beq_iff_eq] at hg
      obtain ⟨hd, rfl⟩ := hg
      have hs := h.slot n
      rw [hget] at hs
      have hv : tm a n = undef := hs
      have hv2 : a.tmps[n]? = none ∨ a.tmps[n]? = some undef := by
        unfold tm at hv
        rw [Array.getD_eq_getD_getElem?] at hv
        cases hq : a.tmps[n]? with
        | none => exact .inl rfl
        | some v => rw [hq] at hv; right; simpa using hv
      rcases hv2 with hv2 | hv2
      · simp [Region.wanted, ho, yielded, hd, hv2]
      · simp [Region.wanted, ho, yielded, hd, hv2, undef]
    · simp at hg
theorem SemStep.of {P : Program} {dst : Option Nat} {op : AOp} {E E1 : Env} (h : StepR P dst op E E1) : SemStep P dst op E (fun _ => E1) :=
  fun _ _ _ _ _ _ _ hI hd hdN hc K Q hK => step_done hI hd hdN hc h K Q (fun ok' a' w' => hK (fun _ => .bool false, fun _ => []) ok' a' w')
inductive HeadK (P : Program) (K : Env → Prop) (a : Act) (g : GOp) (gs : List GOp) (E : Env) : Prop
  | run {E1 : Gh → Env} : (g.guard = none ∨ ∃ n b, g.guard = some (n, b) ∧ tm a n = .bool b) → SemStep P g.dst g.op E E1 → (∀ u, OpsK P K gs (E1 u)) → HeadK P K a g gs E
  | no {n : Nat} {b : Bool} {E1 : Env} : g.guard = some (n, b) → unw (get E n) b → skipE g.dst E = some E1 → OpsK P K gs E1 → HeadK P K a g gs E
def HeadOr (P : Program) (K : Env → Prop) (a : Act) : List GOp → Env → Prop
  | [], E => K E
  | g :: gs, E => HeadK P K a g gs E
theorem opsK_head {K : Env → Prop} {l : List GOp} (h : OpsK P K l E) : ∀ {ok : Nat → Prop}, InvO ok N B w0 E a w →
    ∃ ok' E', InvO ok' N B w0 E' a w ∧ (∀ b, ok' b → ok b ∨ B.n ≤ b) ∧ HeadOr P K a l E' := by
  induction h with
  | nil hK => exact fun hI => ⟨_, _, hI, fun _ h => .inl h, hK⟩
  | run h1 h2 h3 _ => exact fun hI => ⟨_, _, hI, fun _ h => .inl h, HeadK.run (.inl h1) h2 h3⟩
  | @yes g gs n b E hg hget _ ih =>
    intro ok hI
    obtain ⟨ok2, E2, hI2, hn2, h2⟩ := ih hI
    have hs := hI.slot n
    rw [hget] at hs
    have hv : tm a n = .bool b := by simpa [SlotOK, Rep] using hs
    refine ⟨ok2, E2, hI2, hn2, ?_⟩
    simp only [HeadOr] at h2 ⊢
    cases h2 with
    | run _ h3 h4 => exact .run (.inr ⟨n, b, hg, hv⟩) h3 h4
    | no hg' => simp at hg'
  | no h1 h2 h3 h4 _ => exact fun hI => ⟨_, _, hI, fun _ h => .inl h, HeadK.no h1 h2 h3 h4⟩
  | gh h1 _ ih =>
    intro ok hI
    obtain ⟨u, ok1, hI1, hn⟩ := h1 _ _ _ _ _ _ hI
    obtain ⟨ok2, E2, hI2, hn2, h2⟩ := ih u hI1
    exact ⟨ok2, E2, hI2, fun b hb => (hn2 b hb).elim (hn b) .inr, h2⟩
theorem headK_wanted {ops : Array Oper} {o : Oper} {g : GOp} (hc : chkG P N ops o g = true) (hg : g.guard = none ∨ ∃ n b, g.guard = some (n, b) ∧ tm a n = .bool b) :
    Region.wanted o (yielded ops a.tmps) = true := by
  simp only [chkG, Bool.and_eq_true] at hc
  obtain ⟨_, hgc⟩ := hc
  rcases hg with hg | ⟨n, b, hg, hv⟩
  · rw [hg] at hgc
    split at hgc
    · rename_i ho _; simp [Region.wanted, ho]
    · rename_i h1; simp at h1
    · simp at hgc
  · rw [hg] at hgc
    split at hgc
    · rename_i h1; simp at h1
    · rename_i j b1 n1 b2 ho h1
      simp only [Option.some.injEq, Prod.mk.injEq] at h1
      obtain ⟨rfl, rfl⟩ := h1
      simp only [Bool.and_eq_true, beq_iff_eq] at hgc
      obtain ⟨hd, rfl⟩ := hgc
      have hv2 : a.tmps[n]? = some (.bool b1) := by
        unfold tm at hv
        rw [Array.getD_eq_getD_getElem?] at hv
        cases hq : a.tmps[n]? with
        | none => rw [hq] at hv; simp [undef] at hv
        | some v => rw [hq] at hv; simpa using hv
      simp only [Region.wanted, ho, yielded, hd, Option.bind_some, hv2]
      cases b1 <;> rfl
    · simp at hgc
theorem ops_seq {ops : Array Oper} {Q : Exit → Act → World → Prop} {K : Env → Prop} : ∀ (gs : List GOp) {E : Env} {ok : Nat → Prop} {a : Act} {w : World} (k : Nat) (os : List Oper), OpsK P K gs E → ops.toList.drop k = os → chkGs P N ops os gs = true →
    InvO ok N B w0 E a w → (∀ E2 ok' a' w', K E2 → InvO ok' N B w0 E2 a' w' → (∀ b, ok' b → ok b ∨ B.n ≤ b) → Q .normal a' w') → wpOps P ops Q (List.range' k os.length) a w
  | [], E, ok, a, w, k, os, hrun, hos, hc, hI, hQ => by
    obtain ⟨ok1, E1, hI1, hn1, hK⟩ := opsK_head hrun hI
    cases os with
    | nil => simpa [wpOps] using hQ E1 ok1 a w hK hI1 hn1
    | cons o os => simp [chkGs] at hc
  | g :: gs, E, ok, a, w, k, os, hrun, hos, hc, hI, hQ => by
    obtain ⟨ok1, E1, hI1, hn1, hK⟩ := opsK_head hrun hI
    cases os with
    | nil => simp [chkGs] at hc
    | cons o os =>
    simp only [chkGs, Bool.and_eq_true] at hc
    have hok : ops[k]? = some o := by have := congrArg (·[0]?) hos; simpa using this
    have hos' : ops.toList.drop (k + 1) = os := by have := congrArg (List.drop 1) hos; simpa [List.drop_drop, Nat.add_comm] using this
    have hcg := hc.1
    simp only [chkG, Bool.and_eq_true, beq_iff_eq] at hcg
    have hdN : ∀ d, g.dst = some d → d < N := fun d hd => by have := hcg.1.1.2; rw [hd] at this; simpa using this
    rw [List.length_cons, List.range'_succ]
    cases hK with
    | run hg hst hrest =>
      have hw := headK_wanted hc.1 hg
      simp only [wpOps, hok, hw, if_true]
      refine .inl (hst _ _ _ _ _ _ o hI1 hcg.1.1.1 hdN hcg.1.2 _ _ (fun u ok' a' w' hI' hn => ops_seq gs (k + 1) os (hrest u) hos' hc.2 hI' (fun E2 ok'' a'' w'' hK2 hI'' hn' => hQ E2 ok'' a'' w'' hK2 hI'' (fun b hb => ?_))))
      rcases hn' b hb with h1 | h1
      · rcases hn b h1 with h2 | h2
        · exact hn1 b h2
        · exact .inr h2
      · exact .inr h1
    | no hg hu hsk hrest =>
      have hw := wanted_no hI1 hc.1 hg hu
      simp only [wpOps, hok, hw, Bool.false_eq_true, if_false]
      rw [hcg.1.1.1]
      exact ops_seq gs (k + 1) os hrest hos' hc.2 (hI1.skip hdN hsk) (fun E2 ok'' a'' w'' hK2 hI'' hn' => hQ E2 ok'' a'' w'' hK2 hI'' (fun b hb => (hn' b hb).elim (hn1 b) .inr))
end
end Go.Rd
