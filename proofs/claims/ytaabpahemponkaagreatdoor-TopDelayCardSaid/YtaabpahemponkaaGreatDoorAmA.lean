/-
  The abstract machine: values that carry their contents, objects, and the relation to worlds. No program in sight.
-/
import Derived.Tactics
import Derived.Laws.Entries
import Derived.Laws.Rows
import Derived.Laws.AppendOwn
import Derived.Laws.Slices
import Derived.Laws.Strings
import Derived.Laws.BytesString
import Derived.Laws.IdiomStrings
import Derived.Laws.IdiomCopy
import Derived.Laws.MakeOwn
import Derived.Laws.BitsAllLaws
set_option linter.unusedVariables false
set_option linter.unusedSimpArgs false
namespace Go.Am
open Go
class NatOf (z : Int) (n : outParam Nat) : Prop where
  h : z = (n : Int)
instance (n : Nat) : NatOf ((n : Nat) : Int) n := ⟨rfl⟩
instance (n : Nat) : NatOf (no_index (OfNat.ofNat n : Int)) (OfNat.ofNat n : Nat) := ⟨rfl⟩
inductive AV where
  | unk
  | raw (v : Value)
  | emp
  | bys (bs : List UInt8)
  | sls (n : Nat) (xs : List AV)
  | pby (bs : List UInt8) (i : Nat)
  | pce (xs : List AV) (i : Nat)
  | ptr (o off : Nat)
  | vw (o sz off len : Nat)
  | mp (o : Nat)
  | agg (xs : List AV)
  | tup (xs : List AV)
  | fnc (fn : Fn) (first caps : List AV)
  | ifc (t : TypeId) (x : AV)
  | bysx (bs : List UInt8)
  | slsx (n : Nat) (xs : List AV)
  | str (bs : List UInt8)
  | vwn (o sz off len : Nat)
instance : Inhabited AV := ⟨.unk⟩
inductive AO where
  | byt (bs : List UInt8)
  | cel (xs : List AV)
  | mpo (es : List (AV × AV))
structure Loc where
  blk : Nat
  base : Nat
  size : Nat
structure Gh where
  w0 : World
  h : Nat → Option Obj
  loc : Nat → Option Loc
structure Gh.le (g g' : Gh) : Prop where
  w0 : g'.w0 = g.w0
  h : ∀ b o, g.h b = some o → g'.h b = some o
  loc : ∀ o l, g.loc o = some l → g'.loc o = some l
theorem Gh.le.refl (g : Gh) : g.le g := ⟨rfl, fun _ _ h => h, fun _ _ h => h⟩
theorem Gh.le.trans {a b c : Gh} (h : a.le b) (k : b.le c) : a.le c :=
  ⟨k.w0.trans h.w0, fun _ _ e => k.h _ _ (h.h _ _ e), fun _ _ e => k.loc _ _ (h.loc _ _ e)⟩
def ByAt (bs : List UInt8) (c : Array Value) (k : Nat) : Prop := ∀ i x, bs[i]? = some x → c[k + i]? = some (.int .u8 (x.toNat : Int))
def one (v : Value) : Prop := v.oneCell' = true
mutual
def Rep (g : Gh) : AV → Value → Prop
  | .unk, _ => True
  | .raw u, v => v = u
  | .emp, v => ∃ a, v = .slice a 0 0
  | .bys bs, v => (bs = [] ∧ ∃ a cap, v = .slice a 0 cap) ∨ ∃ b off cap c e fz, v = .slice (some ⟨b, off, none⟩) bs.length cap ∧ bs.length ≤ cap ∧ g.h b = some (.cells c e fz) ∧ ByAt bs c off
  | .sls n xs, v => (n = 0 ∧ xs = [] ∧ ∃ a cap, v = .slice a 0 cap) ∨ ∃ b off cap c e fz, v = .slice (some ⟨b, off, none⟩) n cap ∧ n ≤ cap ∧ g.h b = some (.cells c e fz) ∧ RepAt g xs c off
  | .pby bs i, v => ∃ b off c e fz, v = .pointer (some ⟨b, off + i, none⟩) ∧ g.h b = some (.cells c e fz) ∧ ByAt bs c off
  | .pce xs i, v => ∃ b off c e fz, v = .pointer (some ⟨b, off + i, none⟩) ∧ g.h b = some (.cells c e fz) ∧ RepAt g xs c off
  | .ptr o off, v => ∃ l, g.loc o = some l ∧ v = .pointer (some ⟨l.blk, l.base + off, none⟩)
  | .vw o sz off len, v => (∃ l cap, g.loc o = some l ∧ v = .slice (some ⟨l.blk, l.base + off, none⟩) len cap ∧ len ≤ cap ∧ l.base + off + cap * sz ≤ l.size) ∨ (len = 0 ∧ ∃ a, v = .slice a 0 0)
  | .vwn o sz off len, v => (∃ l cap, g.loc o = some l ∧ v = .slice (some ⟨l.blk, l.base + off, none⟩) len cap ∧ len ≤ cap ∧ l.base + off + cap * sz ≤ l.size) ∨ (len = 0 ∧ ∃ a, v = .slice (some a) 0 0)
  | .mp o, v => ∃ l, g.loc o = some l ∧ v = .map (some l.blk)
  | .agg xs, v => ∃ a : Array Value, v = .agg a ∧ RepL g xs a.toList
  | .tup xs, v => ∃ a : Array Value, v = .tuple a ∧ RepL g xs a.toList
  | .fnc fn fs cs, v => ∃ a b : Array Value, v = .func fn a b ∧ RepL g fs a.toList ∧ RepL g cs b.toList
  | .ifc t x, v => ∃ u, v = .iface t u ∧ Rep g x u
  | .bysx bs, v => (bs = [] ∧ ∃ a, v = .slice a 0 0) ∨ ∃ b off c e fz, v = .slice (some ⟨b, off, none⟩) bs.length bs.length ∧ g.h b = some (.cells c e fz) ∧ ByAt bs c off
  | .str bs, v => v = .string ⟨bs.toArray⟩
  | .slsx n xs, v => (n = 0 ∧ xs = [] ∧ ∃ a, v = .slice a 0 0) ∨ ∃ b off c e fz, v = .slice (some ⟨b, off, none⟩) n n ∧ g.h b = some (.cells c e fz) ∧ RepAt g xs c off
def RepL (g : Gh) : List AV → List Value → Prop
  | [], l => l = []
  | x :: xs, l => ∃ u us, l = u :: us ∧ Rep g x u ∧ RepL g xs us
def RepAt (g : Gh) : List AV → Array Value → Nat → Prop
  | [], _, _ => True
  | x :: xs, c, k => (∃ u, c[k]? = some u ∧ one u ∧ Rep g x u) ∧ RepAt g xs c (k + 1)
end
mutual
theorem Rep.mono {g g' : Gh} (hg : g.le g') : ∀ (x : AV) (v : Value), Rep g x v → Rep g' x v
  | .unk, _, _ => trivial
  | .raw _, _, h => h
  | .emp, _, h => h
  | .bys bs, v, h => by
    simp only [Rep] at h ⊢
    rcases h with h | ⟨b, off, cap, c, e, fz, h1, h2, h3, h4⟩
    · exact .inl h
    · exact .inr ⟨b, off, cap, c, e, fz, h1, h2, hg.h _ _ h3, h4⟩
  | .sls n xs, v, h => by
    simp only [Rep] at h ⊢
    rcases h with h | ⟨b, off, cap, c, e, fz, h1, h2, h3, h4⟩
    · exact .inl h
    · exact .inr ⟨b, off, cap, c, e, fz, h1, h2, hg.h _ _ h3, RepAt.mono hg xs _ _ h4⟩
  | .pby bs i, v, h => by
    simp only [Rep] at h ⊢
    obtain ⟨b, off, c, e, fz, h1, h3, h4⟩ := h
    exact ⟨b, off, c, e, fz, h1, hg.h _ _ h3, h4⟩
  | .pce xs i, v, h => by
    simp only [Rep] at h ⊢
    obtain ⟨b, off, c, e, fz, h1, h3, h4⟩ := h
    exact ⟨b, off, c, e, fz, h1, hg.h _ _ h3, RepAt.mono hg xs _ _ h4⟩
  | .ptr o off, v, h => by
    simp only [Rep] at h ⊢
    obtain ⟨l, h1, h2⟩ := h
    exact ⟨l, hg.loc _ _ h1, h2⟩
  | .vw o sz off len, v, h => by
    simp only [Rep] at h ⊢
    rcases h with ⟨l, cap, h1, h2⟩ | h
    · exact .inl ⟨l, cap, hg.loc _ _ h1, h2⟩
    · exact .inr h
  | .vwn o sz off len, v, h => by
    simp only [Rep] at h ⊢
    rcases h with ⟨l, cap, h1, h2⟩ | h
    · exact .inl ⟨l, cap, hg.loc _ _ h1, h2⟩
    · exact .inr h
  | .mp o, v, h => by
    simp only [Rep] at h ⊢
    obtain ⟨l, h1, h2⟩ := h
    exact ⟨l, hg.loc _ _ h1, h2⟩
  | .agg xs, v, h => by
    simp only [Rep] at h ⊢
    obtain ⟨a, h1, h2⟩ := h
    exact ⟨a, h1, RepL.mono hg xs _ h2⟩
  | .tup xs, v, h => by
    simp only [Rep] at h ⊢
    obtain ⟨a, h1, h2⟩ := h
    exact ⟨a, h1, RepL.mono hg xs _ h2⟩
  | .fnc fn fs cs, v, h => by
    simp only [Rep] at h ⊢
    obtain ⟨a, b, h1, h2, h3⟩ := h
    exact ⟨a, b, h1, RepL.mono hg fs _ h2, RepL.mono hg cs _ h3⟩
  | .ifc t x, v, h => by
    simp only [Rep] at h ⊢
    obtain ⟨u, h1, h2⟩ := h
    exact ⟨u, h1, Rep.mono hg x _ h2⟩
  | .bysx bs, v, h => by
    simp only [Rep] at h ⊢
    rcases h with h | ⟨b, off, c, e, fz, h1, h3, h4⟩
    · exact .inl h
    · exact .inr ⟨b, off, c, e, fz, h1, hg.h _ _ h3, h4⟩
  | .str _, _, h => h
  | .slsx n xs, v, h => by
    simp only [Rep] at h ⊢
    rcases h with h | ⟨b, off, c, e, fz, h1, h3, h4⟩
    · exact .inl h
    · exact .inr ⟨b, off, c, e, fz, h1, hg.h _ _ h3, RepAt.mono hg xs _ _ h4⟩
theorem RepL.mono {g g' : Gh} (hg : g.le g') : ∀ (xs : List AV) (l : List Value), RepL g xs l → RepL g' xs l
  | [], _, h => by simpa only [RepL] using h
  | x :: xs, l, h => by
    simp only [RepL] at h ⊢
    obtain ⟨u, us, h1, h2, h3⟩ := h
    exact ⟨u, us, h1, Rep.mono hg x _ h2, RepL.mono hg xs _ h3⟩
theorem RepAt.mono {g g' : Gh} (hg : g.le g') : ∀ (xs : List AV) (c : Array Value) (k : Nat), RepAt g xs c k → RepAt g' xs c k
  | [], _, _, _ => by simp only [RepAt]
  | x :: xs, c, k, h => by
    simp only [RepAt] at h ⊢
    obtain ⟨⟨u, h1, h2, h3⟩, h4⟩ := h
    exact ⟨⟨u, h1, h2, Rep.mono hg x _ h3⟩, RepAt.mono hg xs _ _ h4⟩
end
theorem repAt_iff {g : Gh} : ∀ (xs : List AV) (c : Array Value) (k : Nat), RepAt g xs c k ↔ ∀ i x, xs[i]? = some x → ∃ u, c[k + i]? = some u ∧ one u ∧ Rep g x u
  | [], c, k => by simp [RepAt]
  | x :: xs, c, k => by
    simp only [RepAt, repAt_iff xs c (k + 1)]
    constructor
    · rintro ⟨h0, h⟩ i y hi
      cases i with
      | zero => simp at hi; subst hi; simpa using h0
      | succ i => simp at hi; have := h i y hi; rwa [Nat.add_assoc, Nat.add_comm 1 i] at this
    · intro h
      refine ⟨by simpa using h 0 x rfl, fun i y hi => ?_⟩
      have := h (i + 1) y (by simpa using hi)
      rwa [Nat.add_comm i 1, ← Nat.add_assoc] at this
theorem repL_length {g : Gh} : ∀ (xs : List AV) (l : List Value), RepL g xs l → l.length = xs.length
  | [], l, h => by simp only [RepL] at h; simp [h]
  | x :: xs, l, h => by
    simp only [RepL] at h
    obtain ⟨u, us, rfl, _, h3⟩ := h
    simp [repL_length xs us h3]
theorem repL_iff {g : Gh} : ∀ (xs : List AV) (l : List Value), RepL g xs l ↔ l.length = xs.length ∧ ∀ (i : Nat) (x : AV), xs[i]? = some x → ∃ u, l[i]? = some u ∧ Rep g x u
  | [], l => by simp [RepL]
  | x :: xs, l => by
    simp only [RepL]
    constructor
    · rintro ⟨u, us, rfl, h1, h2⟩
      obtain ⟨hl, h⟩ := (repL_iff xs us).1 h2
      refine ⟨by simp [hl], fun i y hi => ?_⟩
      cases i with
      | zero => simp at hi; subst hi; exact ⟨u, by simp, h1⟩
      | succ i => simp at hi; simpa using h i y hi
    · rintro ⟨hl, h⟩
      cases l with
      | nil => simp at hl
      | cons u us =>
        obtain ⟨u', hu, hr⟩ := h 0 x rfl
        simp at hu; subst hu
        exact ⟨u, us, rfl, hr, (repL_iff xs us).2 ⟨by simpa using hl, fun i y hi => by simpa using h (i + 1) y (by simpa using hi)⟩⟩
def AHeap := Nat → Option AO
def AHeap.set (H : AHeap) (o : Nat) (x : AO) : AHeap := fun p => if p = o then some x else H p
def AHeap.erase (H : AHeap) (o : Nat) : AHeap := fun p => if p = o then none else H p
def AHeap.empty : AHeap := fun _ => none
def Unfrozen (c : Array Value) (fz : Nat × Nat) : Prop := ∀ i, i < c.size → ¬ (fz.1 ≤ i ∧ i < fz.2)
def RepEs (g : Gh) : List (AV × AV) → List MapEntry → Prop
  | [], l => l = []
  | (k, v) :: es, l => ∃ m ms, l = m :: ms ∧ Rep g k m.key ∧ Rep g v m.val ∧ RepEs g es ms
def RepC (g : Gh) : AO → Array Value → Nat → Prop
  | .byt bs, c, k => k + bs.length ≤ c.size ∧ ByAt bs c k
  | .cel xs, c, k => k + xs.length ≤ c.size ∧ RepAt g xs c k
  | .mpo _, _, _ => False
def AO.len : AO → Nat
  | .byt bs => bs.length
  | .cel xs => xs.length
  | .mpo _ => 0
def AO.app : AO → AO → AO
  | .byt a, .byt b => .byt (a ++ b)
  | .cel a, .cel b => .cel (a ++ b)
  | x, _ => x
def AO.drop (k : Nat) : AO → AO
  | .byt a => .byt (a.drop k)
  | .cel a => .cel (a.drop k)
  | x => x
def AO.seg (k m : Nat) : AO → AO
  | .byt a => .byt ((a.drop k).take m)
  | .cel a => .cel ((a.drop k).take m)
  | x => x
def AO.like : AO → AO → Prop
  | .byt _, .byt _ => True
  | .cel _, .cel _ => True
  | _, _ => False
def AO.void : AO → Prop
  | .byt bs => bs = []
  | .cel xs => xs = []
  | .mpo _ => False
def itrO (mb since last : Nat) (seen : List Nat) : AO := .mpo ((.emp, .vw mb 0 since last) :: seen.map fun b => (.emp, .ptr b 0))
def mpxO (mb clock : Nat) (es : List (AV × AV)) (born : List Nat) : AO := .mpo ((.emp, .vw mb 1 clock 0) :: (.emp, .tup (born.map fun b => .ptr b 0)) :: es)
def tclO (t : TypeId) (ex : Bool) (xs : List AV) : AO := .mpo [(.emp, .sls t xs), (.emp, .raw (.bool ex))]
def OddO (g : Gh) (x : AO) (l : Loc) (ob : Obj) : Prop :=
  (∃ t ex xs c, x = tclO t ex xs ∧ ob = .cells c t (0, 0) ∧ l.base = 0 ∧ l.size = c.size ∧ (xs.length ≤ c.size ∧ (ex = true → xs.length = c.size)) ∧ RepAt g xs c 0) ∨
  (∃ mb since last seen, x = itrO mb since last seen.toList ∧ ob = .mapIter (some mb) since seen last ∧ l.base = 0) ∨
  (∃ es es' clock, x = mpxO l.blk clock es (es'.toList.map (·.born)) ∧ ob = .map es' clock ∧ RepEs g es es'.toList ∧ (∀ m ∈ es', m.born < clock) ∧ (es'.toList.map (·.born)).Nodup)
def RepO (g : Gh) (heap : Array Obj) (o : Nat) (x : AO) : Prop :=
  (x.void ∧ g.loc o = none) ∨
  (∃ l c e fz, g.loc o = some l ∧ heap[l.blk]? = some (.cells c e fz) ∧ c.size = l.size ∧ Unfrozen c fz ∧ RepC g x c l.base) ∨
  (∃ l es es' clock, x = .mpo es ∧ g.loc o = some l ∧ heap[l.blk]? = some (.map es' clock) ∧ RepEs g es es'.toList ∧ (∀ m ∈ es', m.born < clock) ∧ (es'.toList.map (·.born)).Nodup ∧ ∀ p ∈ es, p.1 ≠ .emp) ∨
  (∃ l ob, g.loc o = some l ∧ heap[l.blk]? = some ob ∧ OddO g x l ob)
theorem RepEs.mono {g g' : Gh} (hg : g.le g') : ∀ (es : List (AV × AV)) (l : List MapEntry), RepEs g es l → RepEs g' es l
  | [], _, h => h
  | (k, v) :: es, l, h => by
    obtain ⟨m, ms, h1, h2, h3, h4⟩ := h
    exact ⟨m, ms, h1, Rep.mono hg _ _ h2, Rep.mono hg _ _ h3, RepEs.mono hg es ms h4⟩
theorem RepC.mono {g g' : Gh} (hg : g.le g') {x : AO} {c : Array Value} {k : Nat} (h : RepC g x c k) : RepC g' x c k := by
  cases x with
  | byt bs => exact h
  | cel xs => exact ⟨h.1, RepAt.mono hg _ _ _ h.2⟩
  | mpo es => exact h
theorem RepC.size {g : Gh} {x : AO} {c : Array Value} {k : Nat} (h : RepC g x c k) : k ≤ c.size := by
  cases x with
  | byt bs => have := h.1; omega
  | cel xs => have := h.1; omega
  | mpo es => exact h.elim
theorem byAt_drop {bs : List UInt8} {c : Array Value} {k : Nat} (h : ByAt bs c k) (j : Nat) : ByAt (bs.drop j) c (k + j) := fun i x hi => by
  rw [List.getElem?_drop] at hi
  have := h (j + i) x hi
  rwa [← Nat.add_assoc] at this
theorem byAt_take {bs : List UInt8} {c : Array Value} {k : Nat} (h : ByAt bs c k) (j : Nat) : ByAt (bs.take j) c k := fun i x hi => by
  rw [List.getElem?_take] at hi
  split at hi
  · exact h i x hi
  · cases hi
theorem repAt_drop {g : Gh} {xs : List AV} {c : Array Value} {k : Nat} (h : RepAt g xs c k) (j : Nat) : RepAt g (xs.drop j) c (k + j) := by
  rw [repAt_iff] at h ⊢
  intro i x hi
  rw [List.getElem?_drop] at hi
  have := h (j + i) x hi
  rwa [← Nat.add_assoc] at this
theorem repAt_take {g : Gh} {xs : List AV} {c : Array Value} {k : Nat} (h : RepAt g xs c k) (j : Nat) : RepAt g (xs.take j) c k := by
  rw [repAt_iff] at h ⊢
  intro i x hi
  rw [List.getElem?_take] at hi
  split at hi
  · exact h i x hi
  · cases hi
theorem RepC.drop {g : Gh} {x : AO} {c : Array Value} {k : Nat} (h : RepC g x c k) {j : Nat} (hj : j ≤ x.len) : RepC g (x.drop j) c (k + j) := by
  cases x with
  | byt bs => simp only [AO.len] at hj; exact ⟨by have := h.1; simp; omega, byAt_drop h.2 j⟩
  | cel xs => simp only [AO.len] at hj; exact ⟨by have := h.1; simp; omega, repAt_drop h.2 j⟩
  | mpo es => exact h.elim
theorem RepC.seg {g : Gh} {x : AO} {c : Array Value} {k : Nat} (h : RepC g x c k) {j m : Nat} (hj : j + m ≤ x.len) : RepC g (x.seg j m) c (k + j) := by
  cases x with
  | byt bs => simp only [AO.len] at hj; exact ⟨by have := h.1; simp; omega, byAt_take (byAt_drop h.2 j) m⟩
  | cel xs => simp only [AO.len] at hj; exact ⟨by have := h.1; simp; omega, repAt_take (repAt_drop h.2 j) m⟩
  | mpo es => exact h.elim
theorem RepC.len_le {g : Gh} {x : AO} {c : Array Value} {k : Nat} (h : RepC g x c k) : k + x.len ≤ c.size := by
  cases x with
  | byt bs => exact h.1
  | cel xs => exact h.1
  | mpo es => exact h.elim
def AO.at? (g : Gh) (x : AO) (i : Nat) (v : Value) : Prop :=
  match x with
  | .byt bs => ∃ b, bs[i]? = some b ∧ v = .int .u8 (b.toNat : Int)
  | .cel xs => ∃ y, xs[i]? = some y ∧ one v ∧ Rep g y v
  | .mpo _ => False
theorem AO.at_one {g : Gh} {x : AO} {i : Nat} {v : Value} (h : x.at? g i v) : one v := by
  cases x with
  | byt bs => obtain ⟨b, _, rfl⟩ := h; rfl
  | cel xs => obtain ⟨y, _, h, _⟩ := h; exact h
  | mpo es => exact h.elim
theorem repC_iff {g : Gh} {x : AO} {c : Array Value} {k : Nat} (hm : ∀ es, x ≠ .mpo es) : RepC g x c k ↔ k + x.len ≤ c.size ∧ ∀ i, i < x.len → ∃ v, c[k + i]? = some v ∧ x.at? g i v := by
  cases x with
  | byt bs =>
    simp only [RepC, AO.len, AO.at?]
    constructor
    · rintro ⟨h1, h2⟩
      exact ⟨h1, fun i hi => ⟨_, h2 i _ (List.getElem?_eq_getElem hi), _, List.getElem?_eq_getElem hi, rfl⟩⟩
    · rintro ⟨h1, h2⟩
      refine ⟨h1, fun i y hi => ?_⟩
      obtain ⟨v, hv, b, hb, rfl⟩ := h2 i (List.getElem?_eq_some_iff.1 hi).1
      rw [hi] at hb; cases hb; exact hv
  | cel xs =>
    simp only [RepC, AO.len, AO.at?, repAt_iff]
    constructor
    · rintro ⟨h1, h2⟩
      refine ⟨h1, fun i hi => ?_⟩
      obtain ⟨u, hu, h3, h4⟩ := h2 i _ (List.getElem?_eq_getElem hi)
      exact ⟨u, hu, _, List.getElem?_eq_getElem hi, h3, h4⟩
    · rintro ⟨h1, h2⟩
      refine ⟨h1, fun i y hi => ?_⟩
      obtain ⟨v, hv, b, hb, h3, h4⟩ := h2 i (List.getElem?_eq_some_iff.1 hi).1
      rw [hi] at hb; cases hb; exact ⟨v, hv, h3, h4⟩
  | mpo es => exact absurd rfl (hm es)
structure Sim (g : Gh) (H : AHeap) (w : World) : Prop where
  os : w.os = g.w0.os
  tape : w.tape = g.w0.tape
  output : w.output = g.w0.output
  sealed : ∀ b o, g.h b = some o → w.heap[b]? = some o
  objs : ∀ o x, H o = some x → RepO g w.heap o x
  inj : ∀ o1 o2 x1 x2 l1 l2, H o1 = some x1 → H o2 = some x2 → g.loc o1 = some l1 → g.loc o2 = some l2 → l1.blk = l2.blk → o1 = o2
  apart : ∀ o x l, H o = some x → g.loc o = some l → g.h l.blk = none
  fin : ∃ N, ∀ o, N ≤ o → H o = none ∧ g.loc o = none
def Gh.at (g : Gh) (o : Nat) (l : Loc) : Gh := { g with loc := fun p => if p = o then some l else g.loc p }
theorem Gh.le_at (g : Gh) {o : Nat} (ho : g.loc o = none) (l : Loc) : g.le (g.at o l) :=
  ⟨rfl, fun _ _ h => h, fun p l' h => by
    have hne : p ≠ o := fun e => by rw [e, ho] at h; cases h
    simpa [Gh.at, hne] using h⟩
def Gh.seal' (g : Gh) (b : Nat) (ob : Obj) : Gh := { g with h := fun p => if p = b then some ob else g.h p }
theorem Gh.le_seal' (g : Gh) {b : Nat} (hb : g.h b = none) (ob : Obj) : g.le (g.seal' b ob) :=
  ⟨rfl, fun p o h => by
    have hne : p ≠ b := fun e => by rw [e, hb] at h; cases h
    simpa [Gh.seal', hne] using h, fun _ _ h => h⟩
theorem Gh.seal'_self (g : Gh) (b : Nat) (ob : Obj) : (g.seal' b ob).h b = some ob := by simp [Gh.seal']
theorem Gh.at_self (g : Gh) (o : Nat) (l : Loc) : (g.at o l).loc o = some l := by simp [Gh.at]
structure Same (w w' : World) : Prop where
  os : w'.os = w.os
  tape : w'.tape = w.tape
  output : w'.output = w.output
theorem Same.refl (w : World) : Same w w := ⟨rfl, rfl, rfl⟩
theorem Same.trans {a b c : World} (h : Same a b) (k : Same b c) : Same a c := ⟨k.os.trans h.os, k.tape.trans h.tape, k.output.trans h.output⟩
theorem RepO.blk_lt {g : Gh} {heap : Array Obj} {o : Nat} {x : AO} (h : RepO g heap o x) {l : Loc} (hl : g.loc o = some l) : l.blk < heap.size := by
  rcases h with ⟨_, h⟩ | ⟨l', c, e, fz, h1, h2, _⟩ | ⟨l', es, es', ck, _, h1, h2, _⟩ | ⟨l', ob, h1, h2, _⟩
  · rw [h] at hl; cases hl
  · rw [h1] at hl; cases hl; exact (Array.getElem?_eq_some_iff.1 h2).1
  · rw [h1] at hl; cases hl; exact (Array.getElem?_eq_some_iff.1 h2).1
  · rw [h1] at hl; cases hl; exact (Array.getElem?_eq_some_iff.1 h2).1
theorem OddO.mono {g g' : Gh} (hg : g.le g') {x : AO} {b : Loc} {ob : Obj} (h : OddO g x b ob) : OddO g' x b ob := by
  rcases h with ⟨t, ex, xs, c, h1, h2, h3, h4, h5, h6⟩ | h | ⟨es, es', clock, h1, h2, h3, h4⟩
  · exact .inl ⟨t, ex, xs, c, h1, h2, h3, h4, h5, RepAt.mono hg _ _ _ h6⟩
  · exact .inr (.inl h)
  · exact .inr (.inr ⟨es, es', clock, h1, h2, h3.mono hg, h4⟩)
theorem OddO.mp {g : Gh} {x : AO} {b : Loc} {ob : Obj} (h : OddO g x b ob) : ∃ k es, x = .mpo ((.emp, k) :: es) := by
  rcases h with ⟨_, _, _, _, h, _⟩ | ⟨_, _, _, _, h, _⟩ | ⟨_, _, _, h, _⟩
  · exact ⟨_, _, h⟩
  · exact ⟨_, _, h⟩
  · exact ⟨_, _, h⟩
theorem RepO.move {g g' : Gh} {heap heap' : Array Obj} {o : Nat} {x : AO} (h : RepO g heap o x) (hg : g.le g') (hloc : g'.loc o = g.loc o)
    (hb : ∀ l, g.loc o = some l → heap'[l.blk]? = heap[l.blk]?) : RepO g' heap' o x := by
  rcases h with ⟨h1, h2⟩ | ⟨l, c, e, fz, h1, h2, h3, h4, h5⟩ | ⟨l, es, es', ck, h0, h1, h2, h3, h4, h5⟩ | ⟨l, ob, h1, h2, h3⟩
  · exact .inl ⟨h1, hloc.trans h2⟩
  · exact .inr (.inl ⟨l, c, e, fz, hg.loc _ _ h1, (hb l h1).trans h2, h3, h4, h5.mono hg⟩)
  · exact .inr (.inr (.inl ⟨l, es, es', ck, h0, hg.loc _ _ h1, (hb l h1).trans h2, h3.mono hg, h4, h5⟩))
  · exact .inr (.inr (.inr ⟨l, ob, hg.loc _ _ h1, (hb l h1).trans h2, h3.mono hg⟩))
theorem Sim.same {g : Gh} {H : AHeap} {w w' : World} (h : Sim g H w) (hs : Same w w') (hh : w'.heap = w.heap) : Sim g H w' :=
  ⟨hs.os.trans h.os, hs.tape.trans h.tape, hs.output.trans h.output, fun b o hb => by rw [hh]; exact h.sealed b o hb, fun o x ho => by rw [hh]; exact h.objs o x ho, h.inj, h.apart, h.fin⟩
theorem Sim.fresh {g : Gh} {H : AHeap} {w : World} (h : Sim g H w) : ∃ o, H o = none ∧ g.loc o = none :=
  let ⟨N, hN⟩ := h.fin; ⟨N, hN N (Nat.le_refl _)⟩
theorem Sim.new {g : Gh} {H : AHeap} {w w' : World} (h : Sim g H w) (hs : Same w w') {c : Array Value} {e : TypeId} {fz : Nat × Nat}
    (hh : w'.heap = w.heap.push (.cells c e fz)) (hu : Unfrozen c fz) {o : Nat} (ho : g.loc o = none) {x : AO} (hx : RepC g x c 0) :
    Sim (g.at o ⟨w.heap.size, 0, c.size⟩) (H.set o x) w' := by
  have hle := g.le_at ho ⟨w.heap.size, 0, c.size⟩
  have hold : ∀ b, b < w.heap.size → w'.heap[b]? = w.heap[b]? := fun b hb => by rw [hh, Array.getElem?_push, if_neg (by omega)]
  have hself : (g.at o ⟨w.heap.size, 0, c.size⟩).loc o = some ⟨w.heap.size, 0, c.size⟩ := by simp [Gh.at]
  have hother : ∀ p, p ≠ o → (g.at o ⟨w.heap.size, 0, c.size⟩).loc p = g.loc p := fun p hp => by simp [Gh.at, hp]
  refine ⟨hs.os.trans h.os, hs.tape.trans h.tape, hs.output.trans h.output, ?_, ?_, ?_, ?_, ?_⟩
  · intro b ob hb
    have := h.sealed b ob hb
    rw [hold b (Array.getElem?_eq_some_iff.1 this).1]; exact this
  · intro p y hp
    simp only [AHeap.set] at hp
    by_cases hpo : p = o
    · subst hpo
      simp at hp; subst hp
      exact .inr (.inl ⟨_, c, e, fz, hself, by rw [hh]; simp, rfl, hu, hx.mono hle⟩)
    · rw [if_neg hpo] at hp
      have hr := h.objs p y hp
      exact hr.move hle (hother p hpo) fun l hl => hold _ (hr.blk_lt hl)
  · intro o1 o2 x1 x2 l1 l2 h1 h2 k1 k2 hb
    simp only [AHeap.set] at h1 h2
    by_cases e1 : o1 = o <;> by_cases e2 : o2 = o
    · rw [e1, e2]
    · subst e1; rw [hself] at k1; cases k1
      rw [if_neg e2] at h2; rw [hother _ e2] at k2
      have := (h.objs _ _ h2).blk_lt k2
      simp at hb; omega
    · subst e2; rw [hself] at k2; cases k2
      rw [if_neg e1] at h1; rw [hother _ e1] at k1
      have := (h.objs _ _ h1).blk_lt k1
      simp at hb; omega
    · rw [if_neg e1] at h1; rw [if_neg e2] at h2; rw [hother _ e1] at k1; rw [hother _ e2] at k2
      exact h.inj _ _ _ _ _ _ h1 h2 k1 k2 hb
  · intro p y l hp hl
    simp only [AHeap.set] at hp
    by_cases hpo : p = o
    · subst hpo
      rw [hself] at hl; cases hl
      show g.h w.heap.size = none
      cases hn : g.h w.heap.size with
      | none => rfl
      | some ob => have := (Array.getElem?_eq_some_iff.1 (h.sealed _ _ hn)).1; omega
    · rw [if_neg hpo] at hp; rw [hother p hpo] at hl
      exact h.apart p y l hp hl
  · obtain ⟨N, hN⟩ := h.fin
    refine ⟨max N (o + 1), fun p hp => ?_⟩
    have hpo : p ≠ o := by omega
    have := hN p (by omega)
    exact ⟨by simp [AHeap.set, hpo, this.1], by rw [hother p hpo]; exact this.2⟩
theorem Sim.newSeal {g : Gh} {H : AHeap} {w w' : World} (h : Sim g H w) (hs : Same w w') {ob : Obj} (hh : w'.heap = w.heap.push ob) :
    g.h w.heap.size = none ∧ Sim (g.seal' w.heap.size ob) H w' := by
  have hnone : g.h w.heap.size = none := by
    cases hn : g.h w.heap.size with
    | none => rfl
    | some ob => have := (Array.getElem?_eq_some_iff.1 (h.sealed _ _ hn)).1; omega
  have hold : ∀ b, b < w.heap.size → w'.heap[b]? = w.heap[b]? := fun b hb => by rw [hh, Array.getElem?_push, if_neg (by omega)]
  have hle : g.le (g.seal' w.heap.size ob) := ⟨rfl, fun p o h => by
    have hne : p ≠ w.heap.size := fun e => by rw [e, hnone] at h; cases h
    simpa [Gh.seal', hne] using h, fun _ _ h => h⟩
  refine ⟨hnone, hs.os.trans h.os, hs.tape.trans h.tape, hs.output.trans h.output, ?_, fun p y hp => ?_, h.inj, ?_, h.fin⟩
  · intro b o' hbo
    simp only [Gh.seal'] at hbo
    split at hbo
    · rename_i e; cases hbo; rw [e, hh]; simp
    · have := h.sealed b o' hbo
      rw [hold b (Array.getElem?_eq_some_iff.1 this).1]; exact this
  · have hr := h.objs p y hp
    exact hr.move hle rfl fun l hl => hold _ (hr.blk_lt hl)
  · intro p y l hp hl
    have := (h.objs p y hp).blk_lt hl
    simp only [Gh.seal', show l.blk ≠ w.heap.size from by omega, if_false]
    exact h.apart p y l hp hl
theorem Sim.write {g : Gh} {H : AHeap} {w w' : World} (h : Sim g H w) (hs : Same w w') {o : Nat} {x0 x : AO} (hx0 : H o = some x0) {l : Loc} (hl : g.loc o = some l)
    (hoth : ∀ b, b ≠ l.blk → w'.heap[b]? = w.heap[b]?) {c : Array Value} {e : TypeId} {fz : Nat × Nat} (hb : w'.heap[l.blk]? = some (.cells c e fz)) (hsz : c.size = l.size) (hu : Unfrozen c fz)
    (hx : RepC g x c l.base) : Sim g (H.set o x) w' := by
  refine ⟨hs.os.trans h.os, hs.tape.trans h.tape, hs.output.trans h.output, ?_, ?_, ?_, ?_, ?_⟩
  · intro b ob hbo
    rw [hoth b (fun e => by have := h.apart o x0 l hx0 hl; rw [← e] at this; rw [this] at hbo; cases hbo)]
    exact h.sealed b ob hbo
  · intro p y hp
    simp only [AHeap.set] at hp
    by_cases hpo : p = o
    · subst hpo; simp at hp; subst hp
      exact .inr (.inl ⟨l, c, e, fz, hl, hb, hsz, hu, hx⟩)
    · rw [if_neg hpo] at hp
      exact (h.objs p y hp).move (.refl g) rfl fun l' hl' => hoth _ fun e => hpo (h.inj _ _ _ _ _ _ hp hx0 hl' hl e)
  · intro o1 o2 x1 x2 l1 l2 h1 h2 k1 k2 hbb
    simp only [AHeap.set] at h1 h2
    have f1 : ∃ y, H o1 = some y := by by_cases e1 : o1 = o; · exact ⟨x0, e1 ▸ hx0⟩
                                       · rw [if_neg e1] at h1; exact ⟨_, h1⟩
    have f2 : ∃ y, H o2 = some y := by by_cases e2 : o2 = o; · exact ⟨x0, e2 ▸ hx0⟩
                                       · rw [if_neg e2] at h2; exact ⟨_, h2⟩
    obtain ⟨y1, f1⟩ := f1
    obtain ⟨y2, f2⟩ := f2
    exact h.inj _ _ _ _ _ _ f1 f2 k1 k2 hbb
  · intro p y l' hp hl'
    simp only [AHeap.set] at hp
    by_cases hpo : p = o
    · subst hpo; exact h.apart _ _ _ hx0 hl'
    · rw [if_neg hpo] at hp; exact h.apart _ _ _ hp hl'
  · obtain ⟨N, hN⟩ := h.fin
    refine ⟨max N (o + 1), fun p hp => ?_⟩
    have hpo : p ≠ o := by omega
    have := hN p (by omega)
    exact ⟨by simp [AHeap.set, hpo, this.1], this.2⟩
theorem Sim.place {g : Gh} {H : AHeap} {w w' : World} (h : Sim g H w) (hs : Same w w') {b base : Nat} (hb0 : g.h b = none) (hfree : ∀ o x l, H o = some x → g.loc o = some l → l.blk ≠ b)
    (hoth : ∀ k, k ≠ b → w'.heap[k]? = w.heap[k]?) {c : Array Value} {e : TypeId} {fz : Nat × Nat} (hb : w'.heap[b]? = some (.cells c e fz)) (hu : Unfrozen c fz) {o : Nat} (ho : g.loc o = none) {x : AO}
    (hx : RepC g x c base) : Sim (g.at o ⟨b, base, c.size⟩) (H.set o x) w' := by
  have hle := g.le_at ho ⟨b, base, c.size⟩
  have hself : (g.at o ⟨b, base, c.size⟩).loc o = some ⟨b, base, c.size⟩ := by simp [Gh.at]
  have hother : ∀ p, p ≠ o → (g.at o ⟨b, base, c.size⟩).loc p = g.loc p := fun p hp => by simp [Gh.at, hp]
  refine ⟨hs.os.trans h.os, hs.tape.trans h.tape, hs.output.trans h.output, ?_, ?_, ?_, ?_, ?_⟩
  · intro k ob hk
    have hne : k ≠ b := fun e => by
      subst e
      have hk' : g.h k = some ob := hk
      rw [hb0] at hk'; cases hk'
    rw [hoth k hne]; exact h.sealed k ob hk
  · intro p y hp
    simp only [AHeap.set] at hp
    by_cases hpo : p = o
    · subst hpo
      simp at hp; subst hp
      exact .inr (.inl ⟨_, c, e, fz, hself, hb, rfl, hu, hx.mono hle⟩)
    · rw [if_neg hpo] at hp
      exact (h.objs p y hp).move hle (hother p hpo) fun l hl => hoth _ (hfree p y l hp hl)
  · intro o1 o2 x1 x2 l1 l2 h1 h2 k1 k2 hbb
    simp only [AHeap.set] at h1 h2
    by_cases e1 : o1 = o <;> by_cases e2 : o2 = o
    · rw [e1, e2]
    · subst e1; rw [hself] at k1; cases k1
      rw [if_neg e2] at h2; rw [hother _ e2] at k2
      exact absurd hbb.symm (hfree _ _ _ h2 k2)
    · subst e2; rw [hself] at k2; cases k2
      rw [if_neg e1] at h1; rw [hother _ e1] at k1
      exact absurd hbb (hfree _ _ _ h1 k1)
    · rw [if_neg e1] at h1; rw [if_neg e2] at h2; rw [hother _ e1] at k1; rw [hother _ e2] at k2
      exact h.inj _ _ _ _ _ _ h1 h2 k1 k2 hbb
  · intro p y l hp hl
    simp only [AHeap.set] at hp
    by_cases hpo : p = o
    · subst hpo
      rw [hself] at hl; cases hl
      exact hb0
    · rw [if_neg hpo] at hp; rw [hother p hpo] at hl
      exact h.apart p y l hp hl
  · obtain ⟨N, hN⟩ := h.fin
    refine ⟨max N (o + 1), fun p hp => ?_⟩
    have hpo : p ≠ o := by omega
    have := hN p (by omega)
    exact ⟨by simp [AHeap.set, hpo, this.1], by rw [hother p hpo]; exact this.2⟩
theorem Sim.erase {g : Gh} {H : AHeap} {w : World} (h : Sim g H w) (o : Nat) : Sim g (H.erase o) w := by
  have sub : ∀ p y, H.erase o p = some y → H p = some y := fun p y hp => by
    simp only [AHeap.erase] at hp
    split at hp
    · cases hp
    · exact hp
  refine ⟨h.os, h.tape, h.output, h.sealed, fun p y hp => h.objs p y (sub p y hp), fun o1 o2 x1 x2 l1 l2 h1 h2 => h.inj _ _ _ _ _ _ (sub _ _ h1) (sub _ _ h2), fun p y l hp => h.apart p y l (sub _ _ hp), ?_⟩
  obtain ⟨N, hN⟩ := h.fin
  refine ⟨N, fun p hp => ⟨?_, (hN p hp).2⟩⟩
  simp only [AHeap.erase]
  split
  · rfl
  · exact (hN p hp).1
theorem Sim.void {g : Gh} {H : AHeap} {w : World} (h : Sim g H w) {o : Nat} (ho : g.loc o = none) {x : AO} (hx : x.void) : Sim g (H.set o x) w := by
  have sub : ∀ p y l, H.set o x p = some y → g.loc p = some l → H p = some y := fun p y l hp hl => by
    simp only [AHeap.set] at hp
    split at hp
    · rename_i e; rw [e, ho] at hl; cases hl
    · exact hp
  refine ⟨h.os, h.tape, h.output, h.sealed, ?_, fun o1 o2 x1 x2 l1 l2 h1 h2 k1 k2 => h.inj _ _ _ _ _ _ (sub _ _ _ h1 k1) (sub _ _ _ h2 k2) k1 k2, fun p y l hp hl => h.apart p y l (sub _ _ _ hp hl) hl, ?_⟩
  · intro p y hp
    simp only [AHeap.set] at hp
    split at hp
    · rename_i e; cases hp; exact .inl ⟨hx, e ▸ ho⟩
    · exact h.objs p y hp
  · obtain ⟨N, hN⟩ := h.fin
    refine ⟨max N (o + 1), fun p hp => ?_⟩
    have hpo : p ≠ o := by omega
    have := hN p (by omega)
    exact ⟨by simp [AHeap.set, hpo, this.1], this.2⟩
def Gh.seal (g : Gh) (b : Nat) (ob : Obj) : Gh := { g with h := fun p => if p = b then some ob else g.h p }
theorem Gh.le_seal (g : Gh) {b : Nat} (hb : g.h b = none) (ob : Obj) : g.le (g.seal b ob) :=
  ⟨rfl, fun p o h => by
    have hne : p ≠ b := fun e => by rw [e, hb] at h; cases h
    simpa [Gh.seal, hne] using h, fun _ _ h => h⟩
theorem Gh.seal_self (g : Gh) (b : Nat) (ob : Obj) : (g.seal b ob).h b = some ob := by simp [Gh.seal]
theorem Sim.sealObj {g : Gh} {H : AHeap} {w : World} (h : Sim g H w) {o : Nat} {x : AO} (hx : H o = some x) {l : Loc} (hl : g.loc o = some l) {ob : Obj} (hb : w.heap[l.blk]? = some ob) :
    Sim (g.seal l.blk ob) (H.erase o) w := by
  have hle := g.le_seal (h.apart o x l hx hl) ob
  have he := h.erase o
  refine ⟨h.os, h.tape, h.output, ?_, fun p y hp => (he.objs p y hp).move hle rfl fun _ _ => rfl, he.inj, ?_, he.fin⟩
  · intro b o' hbo
    simp only [Gh.seal] at hbo
    split at hbo
    · rename_i e; cases hbo; rw [e]; exact hb
    · exact h.sealed b o' hbo
  · intro p y l' hp hl'
    have hH : H p = some y ∧ p ≠ o := by
      simp only [AHeap.erase] at hp
      split at hp
      · cases hp
      · exact ⟨hp, by assumption⟩
    have hne : l'.blk ≠ l.blk := fun e => hH.2 (h.inj _ _ _ _ _ _ hH.1 hx hl' hl e)
    simp only [Gh.seal, hne, if_false]
    exact he.apart p y l' hp hl'
theorem letsOut_mono {Q Q' : Exit → Act → World → Prop} (hq : ∀ e a w, Q e a w → Q' e a w) (h : LetsOut Q) : LetsOut Q' :=
  let ⟨a, w, h⟩ := h; ⟨a, w, hq _ _ _ h⟩
theorem oper_wp_mono2 {P : Program} {o : Oper} {a : Act} {w : World} {K K' : Act → World → Prop} {Q Q' : Exit → Act → World → Prop}
    (hk : ∀ a w, K a w → K' a w) (hq : ∀ e a w, Q e a w → Q' e a w) (h : o.wp P a w K Q) : o.wp P a w K' Q' := by
  unfold Oper.wp at *
  generalize (execOp a.eval o).run P w = r at *
  cases r with
  | ok n w' =>
    cases n <;> simp only [Oper.upon] at h ⊢ <;>
      first
        | exact hk _ _ h
        | exact Calls.mono h (fun e w'' he => by cases e <;> first | exact hk _ _ he | exact hq _ _ _ he | exact letsOut_mono hq he)
        | exact Rows.mono h (fun _ _ he => hk _ _ he)
  | halt x w' => cases x <;> simp only [Oper.upon] at h ⊢ <;> first | exact hq _ _ _ h | exact h
theorem wpList_mono2 {P : Program} {ops : Array Oper} {Q Q' : Exit → Act → World → Prop} (hq : ∀ e a w, Q e a w → Q' e a w) :
    ∀ (l : List Oper) (a : Act) (w : World), wpList P ops Q l a w → wpList P ops Q' l a w
  | [], a, w, h => hq _ _ _ h
  | o :: l, a, w, h => by
    unfold wpList at *
    split
    · rename_i hw
      rw [if_pos hw] at h
      rcases h with h | ⟨h1, h2⟩
      · exact .inl (oper_wp_mono2 (fun a w => wpList_mono2 hq l a w) hq h)
      · exact .inr ⟨h1, letsOut_mono hq h2⟩
    · rename_i hw
      rw [if_neg hw] at h
      exact wpList_mono2 hq l _ _ h
abbrev Regs := List (Nat × AV)
def rget : Regs → Nat → AV
  | [], _ => .unk
  | (j, x) :: R, i => if Nat.beq j i then x else rget R i
def RegRel (g : Gh) (R : Regs) (t : Array Value) : Prop := ∀ i, Rep g (rget R i) (t.getD i undef)
theorem RegRel.mono {g g' : Gh} (hg : g.le g') {R : Regs} {t : Array Value} (h : RegRel g R t) : RegRel g' R t := fun i => Rep.mono hg _ _ (h i)
theorem RegRel.put {g : Gh} {R : Regs} {t : Array Value} (h : RegRel g R t) {d : Nat} (hd : d < t.size) {x : AV} {v : Value} (hx : Rep g x v) :
    RegRel g ((d, x) :: R) (t.setIfInBounds d v) := by
  intro i
  simp only [rget]
  by_cases hi : d = i
  · subst hi
    simp only [Nat.beq_refl, if_true]
    rw [Array.getD_eq_getD_getElem?, Array.getElem?_setIfInBounds_self_of_lt hd]
    exact hx
  · have hb : Nat.beq d i = false := by
      cases hb : Nat.beq d i with
      | false => rfl
      | true => exact absurd (Nat.eq_of_beq_eq_true hb) hi
    simp only [hb, Bool.false_eq_true, if_false]
    rw [Array.getD_eq_getD_getElem?, Array.getElem?_setIfInBounds_ne hi, ← Array.getD_eq_getD_getElem?]
    exact h i
structure Pre (n : Nat) (R : Regs) (H : AHeap) (g : Gh) (a : Act) (w : World) : Prop where
  defers : a.defers = []
  size : a.tmps.size = n
  regs : RegRel g R a.tmps
  sim : Sim g H w
def Post (n : Nat) (g : Gh) (K : Exit → Regs → AHeap → Prop) : Exit → Act → World → Prop :=
  fun e a w => ∃ R H g', K e R H ∧ g.le g' ∧ Pre n R H g' a w
theorem Post.le {n : Nat} {g g' : Gh} {K : Exit → Regs → AHeap → Prop} (hg : g.le g') {e : Exit} {a : Act} {w : World} (h : Post n g' K e a w) : Post n g K e a w :=
  let ⟨R, H, g'', hk, hl, hp⟩ := h; ⟨R, H, g'', hk, hg.trans hl, hp⟩
def AW (P : Program) (n : Nat) (c : Code) (K : Exit → Regs → AHeap → Prop) (R : Regs) (H : AHeap) : Prop :=
  ∀ g a w, Pre n R H g a w → c.wp P (Post n g K) a w
def AWL (P : Program) (n : Nat) (ops : Array Oper) (l : List Oper) (K : Exit → Regs → AHeap → Prop) (R : Regs) (H : AHeap) : Prop :=
  ∀ g a w, Pre n R H g a w → wpList P ops (Post n g K) l a w
def kseq (N : Regs → AHeap → Prop) (K : Exit → Regs → AHeap → Prop) : Exit → Regs → AHeap → Prop
  | .normal, R, H => N R H
  | e, R, H => K e R H
def kblock (id : Nat) (K : Exit → Regs → AHeap → Prop) : Exit → Regs → AHeap → Prop
  | .exit id', R, H => if id' = id then K .normal R H else K (.exit id') R H
  | e, R, H => K e R H
section
variable {P : Program} {n : Nat} {K : Exit → Regs → AHeap → Prop} {R : Regs} {H : AHeap}
theorem aw_mono {c : Code} {K' : Exit → Regs → AHeap → Prop} (h : AW P n c K R H) (hk : ∀ e R H, K e R H → K' e R H) : AW P n c K' R H :=
  fun g a w hp => wp_mono (h g a w hp) fun _ _ _ ⟨R, H, g', h1, h2, h3⟩ => ⟨R, H, g', hk _ _ _ h1, h2, h3⟩
theorem aw_skip (h : K .normal R H) : AW P n .skip K R H := fun g _ _ hp => wp_skip ⟨R, H, g, h, .refl g, hp⟩
theorem aw_ret (h : K .ret R H) : AW P n .ret K R H := fun g _ _ hp => wp_ret ⟨R, H, g, h, .refl g, hp⟩
theorem aw_exit {id : Nat} (h : K (.exit id) R H) : AW P n (.exit id) K R H := fun g _ _ hp => wp_exit ⟨R, H, g, h, .refl g, hp⟩
theorem aw_label {l : Nat} (h : K .normal R H) : AW P n (.label l) K R H := fun g _ _ hp => wp_label ⟨R, H, g, h, .refl g, hp⟩
theorem aw_seq {x y : Code} (h : AW P n x (kseq (AW P n y K) K) R H) : AW P n (.seq x y) K R H := fun g a w hp =>
  wp_seq (wp_mono (h g a w hp) fun e a' w' ⟨R', H', g', h1, h2, h3⟩ => by
    cases e with
    | normal => exact wp_mono (h1 g' a' w' h3) fun _ _ _ hq => hq.le h2
    | _ => exact ⟨R', H', g', h1, h2, h3⟩)
theorem aw_block {id : Nat} {c : Code} (h : AW P n c (kblock id K) R H) : AW P n (.block id c) K R H := fun g a w hp =>
  wp_block (wp_mono (h g a w hp) fun e a' w' ⟨R', H', g', h1, h2, h3⟩ => by
    cases e with
    | exit id' =>
      simp only [kblock] at h1
      simp only [Exit.inBlock]
      split
      · rename_i hi; rw [if_pos hi] at h1; exact ⟨R', H', g', h1, h2, h3⟩
      · rename_i hi; rw [if_neg hi] at h1; exact ⟨R', H', g', h1, h2, h3⟩
    | _ => exact ⟨R', H', g', h1, h2, h3⟩)
def reval (R : Regs) : Operand → AV
  | .tmp t => rget R t
  | .const (.agg cs) => .agg (cs.toList.map .raw)
  | .const (.tuple cs) => .tup (cs.toList.map .raw)
  | .const (.string s) => .str s.data.toList
  | .const v => .raw v
  | .global g => .raw (.pointer (some ⟨g, 0, none⟩))
  | .func f => .fnc (.func f) [] []
theorem repL_raw {g : Gh} : ∀ l : List Value, RepL g (l.map .raw) l
  | [] => by simp only [List.map_nil, RepL]
  | v :: l => by simp only [List.map_cons, RepL]; exact ⟨v, l, rfl, by simp only [Rep], repL_raw l⟩
theorem reval_rep {g : Gh} {a : Act} (h : RegRel g R a.tmps) : ∀ x : Operand, Rep g (reval R x) (a.eval x)
  | .tmp t => h t
  | .const v => by cases v <;> simp only [reval, Act.eval, Rep] <;> first | exact ⟨_, rfl, repL_raw _⟩ | simp
  | .global g => by simp only [reval, Act.eval, Rep]
  | .func f => by simp only [reval, Act.eval, Rep]; exact ⟨#[], #[], rfl, by simp only [RepL], by simp only [RepL]⟩
theorem aw_cond {c : Operand} {x y : Code} {b : Bool} (hc : reval R c = .raw (.bool b)) (ht : b = true → AW P n x K R H) (hf : b = false → AW P n y K R H) :
    AW P n (.cond c x y) K R H := fun g a w hp => by
  have h := reval_rep hp.regs c
  rw [hc] at h
  simp only [Rep] at h
  cases b
  · exact wp_cond h (hf rfl g a w hp)
  · exact wp_cond h (ht rfl g a w hp)
theorem aw_region {id : Nat} {ops : Array Oper} (h : AWL P n ops ops.toList K R H) : AW P n (.region id ops false) K R H :=
  fun g a w hp => wp_region_list (h g a w hp)
theorem awl_nil {ops : Array Oper} (h : K .normal R H) : AWL P n ops [] K R H := fun g _ _ hp => ⟨R, H, g, h, .refl g, hp⟩
def RSub : Regs → Regs → Prop
  | [], _ => True
  | (i, x) :: R0, R => rget R i = x ∧ RSub R0 R
theorem RSub.get : ∀ {R0 R : Regs}, RSub R0 R → ∀ i, rget R0 i = .unk ∨ rget R0 i = rget R i
  | [], _, _, _ => .inl rfl
  | (j, x) :: R0, R, h, i => by
    simp only [rget]
    by_cases hb : Nat.beq j i = true
    · simp only [hb, if_true]; exact .inr (by rw [← Nat.eq_of_beq_eq_true hb]; exact h.1.symm)
    · simp only [hb, Bool.false_eq_true, if_false]; exact RSub.get h.2 i
theorem RegRel.sub {g : Gh} {R0 R : Regs} {t : Array Value} (h : RegRel g R t) (hs : RSub R0 R) : RegRel g R0 t := fun i => by
  rcases hs.get i with h0 | h0
  · rw [h0]; simp only [Rep]
  · rw [h0]; exact h i
def Ent (R : Regs) (H : AHeap) (R' : Regs) (H' : AHeap) : Prop :=
  ∀ g t w, RegRel g R t → Sim g H w → ∃ g', g.le g' ∧ RegRel g' R' t ∧ Sim g' H' w
theorem Ent.refl (R : Regs) (H : AHeap) : Ent R H R H := fun g _ _ h1 h2 => ⟨g, .refl g, h1, h2⟩
theorem Ent.trans {R1 R2 R3 : Regs} {H1 H2 H3 : AHeap} (h : Ent R1 H1 R2 H2) (k : Ent R2 H2 R3 H3) : Ent R1 H1 R3 H3 := fun g t w h1 h2 =>
  let ⟨g', l1, h1', h2'⟩ := h g t w h1 h2
  let ⟨g'', l2, h1'', h2''⟩ := k g' t w h1' h2'
  ⟨g'', l1.trans l2, h1'', h2''⟩
theorem Ent.sub {R0 R : Regs} (H : AHeap) (hs : RSub R0 R) : Ent R H R0 H := fun g _ _ h1 h2 => ⟨g, .refl g, h1.sub hs, h2⟩
theorem aw_ent {c : Code} {R' : Regs} {H' : AHeap} (he : Ent R H R' H') (h : AW P n c K R' H') : AW P n c K R H := fun g a w hp =>
  let ⟨g', hl, h1, h2⟩ := he g a.tmps w hp.regs hp.sim
  wp_mono (h g' a w ⟨hp.defers, hp.size, h1, h2⟩) fun _ _ _ hq => hq.le hl
theorem aw_sub {c : Code} {R0 : Regs} (hs : RSub R0 R) (h : AW P n c K R0 H) : AW P n c K R H := aw_ent (Ent.sub H hs) h
theorem awl_ent {ops : Array Oper} {l : List Oper} {R' : Regs} {H' : AHeap} (he : Ent R H R' H') (h : AWL P n ops l K R' H') : AWL P n ops l K R H := fun g a w hp => by
  obtain ⟨g', hl, h1, h2⟩ := he g a.tmps w hp.regs hp.sim
  have := h g' a w ⟨hp.defers, hp.size, h1, h2⟩
  exact wpList_mono2 (fun _ _ _ hq => hq.le hl) _ _ _ this
end
end Go.Am
namespace Go.Am
open Go
section
variable {P : Program} {n : Nat} {K : Exit → Regs → AHeap → Prop} {R : Regs} {H : AHeap} {ops : Array Oper} {rest : List Oper}
theorem rv {g : Gh} {a : Act} {w : World} (hp : Pre n R H g a w) {x : Operand} {v : AV} (hx : reval R x = v) : Rep g v (a.eval x) := hx ▸ reval_rep hp.regs x
theorem Pre.put {g g' : Gh} {a : Act} {w w' : World} {H' : AHeap} (hp : Pre n R H g a w) (hl : g.le g') {d : Tmp} (hd : Nat.blt d n = true) {x : AV} {v : Value} (hx : Rep g' x v) (hs : Sim g' H' w') :
    Pre n ((d, x) :: R) H' g' (a.put (some d) v) w' :=
  ⟨hp.defers, by simp [Act.put, hp.size], (hp.regs.mono hl).put (by rw [hp.size]; exact Nat.le_of_ble_eq_true hd) hx, hs⟩
theorem awl_step {o : Oper} {d : Tmp} (hg : o.guard = none) (hd : o.dst = some d) (hdn : Nat.blt d n = true)
    (h : ∀ g a w, Pre n R H g a w → ∃ v w' g' x H', (execOp a.eval o).run P w = .ok (.value v) w' ∧ g.le g' ∧ Rep g' x v ∧ Sim g' H' w' ∧ AWL P n ops rest K ((d, x) :: R) H') :
    AWL P n ops (o :: rest) K R H := fun g a w hp => by
  obtain ⟨v, w', g', x, H', hr, hl, hx, hs, hk⟩ := h g a w hp
  refine wpList_plain hg fun K' hK' => ?_
  rw [Oper.wp, hr, Oper.upon_value, hd]
  exact hK' _ _ (wpList_mono2 (fun _ _ _ hq => hq.le hl) _ _ _ (hk g' _ w' (hp.put hl hdn hx hs)))
theorem awl_pure {o : Oper} {d : Tmp} (hg : o.guard = none) (hd : o.dst = some d) (hdn : Nat.blt d n = true) {x : AV}
    (h : ∀ g a w, Pre n R H g a w → ∃ v, (execOp a.eval o).run P w = .ok (.value v) w ∧ Rep g x v) (hk : AWL P n ops rest K ((d, x) :: R) H) :
    AWL P n ops (o :: rest) K R H :=
  awl_step hg hd hdn fun g a w hp => let ⟨v, hr, hx⟩ := h g a w hp; ⟨v, w, g, x, H, hr, .refl g, hx, hp.sim, hk⟩
theorem awl_none {o : Oper} (hg : o.guard = none) (hd : o.dst = none)
    (h : ∀ g a w, Pre n R H g a w → ∃ w' g' H', (execOp a.eval o).run P w = .ok .skip w' ∧ g.le g' ∧ Sim g' H' w' ∧ AWL P n ops rest K R H') :
    AWL P n ops (o :: rest) K R H := fun g a w hp => by
  obtain ⟨w', g', H', hr, hl, hs, hk⟩ := h g a w hp
  refine wpList_plain hg fun K' hK' => ?_
  rw [Oper.wp, hr, Oper.upon_skip, hd]
  exact hK' _ _ (wpList_mono2 (fun _ _ _ hq => hq.le hl) _ _ _ (hk g' _ w' ⟨hp.defers, hp.size, hp.regs.mono hl, hs⟩))
def Stp (P : Program) (n : Nat) (op : Op) (ty : TypeId) (R : Regs) (H : AHeap) (x : AV) : Prop :=
  ∀ (o : Oper), o.op = op → o.type = ty → ∀ g a w, Pre n R H g a w → ∀ (Kc : Act → World → Prop) (Q : Exit → Act → World → Prop),
    (∀ v w' g', g.le g' → Rep g' x v → Sim g' H w' → Kc (a.put o.dst v) w') → o.wp P a w Kc Q
theorem stp_run {op : Op} {ty : TypeId} {x : AV}
    (h : ∀ (o : Oper), o.op = op → o.type = ty → ∀ g a w, Pre n R H g a w → ∃ v w' g', (execOp a.eval o).run P w = .ok (.value v) w' ∧ g.le g' ∧ Rep g' x v ∧ Sim g' H w') : Stp P n op ty R H x := fun o h1 h2 g a w hp Kc Q hk => by
  obtain ⟨v, w', g', hr, hl, hx, hs⟩ := h o h1 h2 g a w hp
  rw [Oper.wp, hr, Oper.upon_value]
  exact hk v w' g' hl hx hs
theorem stp_pure {op : Op} {ty : TypeId} {x : AV}
    (h : ∀ (o : Oper), o.op = op → o.type = ty → ∀ g a w, Pre n R H g a w → ∃ v, (execOp a.eval o).run P w = .ok (.value v) w ∧ Rep g x v) : Stp P n op ty R H x :=
  stp_run fun o h1 h2 g a w hp => let ⟨v, hr, hx⟩ := h o h1 h2 g a w hp; ⟨v, w, g, hr, .refl g, hx, hp.sim⟩
variable {d : Tmp} {ty : TypeId} {pos : String} {af : Array Edge}
theorem awl_s {op : Op} {x : AV} (hdn : Nat.blt d n = true) (hs : Stp P n op ty R H x) (hk : AWL P n ops rest K ((d, x) :: R) H) :
    AWL P n ops (⟨some d, op, ty, pos, af, none⟩ :: rest) K R H := fun g a w hp => by
  refine wpList_plain rfl fun K' hK' => ?_
  exact hs _ rfl rfl g a w hp _ _ fun v w' g' hl hx hsim => hK' _ _ (wpList_mono2 (fun _ _ _ hq => hq.le hl) _ _ _ (hk g' _ w' (hp.put hl hdn hx hsim)))
theorem s_move {x : Operand} {v : AV} (hx : reval R x = v) : Stp P n (.move x) ty R H v :=
  stp_pure fun o h1 _ _ a _ hp => ⟨a.eval x, by simp [execOp, h1], rv hp hx⟩
theorem s_assign {x : Operand} {v : AV} (hx : reval R x = v) : Stp P n (.assign x) ty R H v :=
  stp_pure fun o h1 _ _ a _ hp => ⟨a.eval x, by simp [execOp, h1], rv hp hx⟩
theorem awl_guard {op : Op} {j dj : Nat} {want b : Bool} (hj : (ops[j]?).bind (·.dst) = some dj) (hb : rget R dj = .raw (.bool b)) (hdn : Nat.blt d n = true)
    (hyes : b = want → AWL P n ops (⟨some d, op, ty, pos, af, none⟩ :: rest) K R H) (hno : b = !want → AWL P n ops rest K ((d, .raw undef) :: R) H) :
    AWL P n ops (⟨some d, op, ty, pos, af, some (j, want)⟩ :: rest) K R H := fun g a w hp => by
  have hv : a.tmps.getD dj undef = .bool b := by have := hp.regs dj; rw [hb] at this; simpa only [Rep] using this
  have hy : yielded ops a.tmps j = some b := by
    unfold yielded
    rw [hj]
    simp only [Option.bind_some]
    rw [Array.getD_eq_getD_getElem?] at hv
    cases ht : a.tmps[dj]? with
    | none => rw [ht] at hv; simp [undef] at hv
    | some u => rw [ht] at hv; simp at hv; subst hv; rfl
  unfold wpList
  by_cases hw : b = want
  · have := hyes hw g a w hp
    unfold wpList at this
    rw [if_pos (by simp [Region.wanted])] at this
    rw [if_pos (by simp [Region.wanted, hy, hw])]
    exact this
  · rw [if_neg (by simp [Region.wanted, hy, hw])]
    exact hno (by cases b <;> cases want <;> simp_all) g _ w (hp.put (.refl g) hdn (by simp only [Rep]) hp.sim)
theorem awl_guard_undef {op : Op} {j dj : Nat} {want : Bool} (hj : (ops[j]?).bind (·.dst) = some dj) (hb : rget R dj = .raw undef) (hdn : Nat.blt d n = true)
    (hno : AWL P n ops rest K ((d, .raw undef) :: R) H) : AWL P n ops (⟨some d, op, ty, pos, af, some (j, want)⟩ :: rest) K R H := fun g a w hp => by
  have hv : a.tmps.getD dj undef = undef := by have := hp.regs dj; rw [hb] at this; simpa only [Rep] using this
  have hy : yielded ops a.tmps j = none := by
    unfold yielded
    rw [hj]
    simp only [Option.bind_some]
    rw [Array.getD_eq_getD_getElem?] at hv
    cases ht : a.tmps[dj]? with
    | none => rfl
    | some u => rw [ht] at hv; simp at hv; subst hv; rfl
  unfold wpList
  rw [if_neg (by simp [Region.wanted, hy])]
  exact hno g _ w (hp.put (.refl g) hdn (by simp only [Rep]) hp.sim)
theorem s_pick {c x y : Operand} {b : Bool} {v : AV} (hc : reval R c = .raw (.bool b)) (hv : (if b then reval R x else reval R y) = v)  :
    Stp P n (.pick c x y) ty R H (v) :=
  stp_pure fun o ho _ g a w hp => by
    have h := rv hp hc
    simp only [Rep] at h
    refine ⟨if b then a.eval x else a.eval y, by simp [execOp, ho, h, asBool], ?_⟩
    cases b
    · exact rv hp hv
    · exact rv hp hv
theorem s_binop_int {op : BinOp} {t t2 : TypeId} {x y : Operand} {k k' : IntKind} {a b : Int} {r : Value}
    (hx : reval R x = .raw (.int k a)) (hy : reval R y = .raw (.int k' b)) (hr : binOp op t (.int k a) (.int k' b) = pure r)  :
    Stp P n (.binOp op t x y t2) ty R H (.raw r) :=
  stp_pure fun o ho _ g ac w hp => by
    have h1 := rv hp hx
    have h2 := rv hp hy
    simp only [Rep] at h1 h2
    exact ⟨r, by simp [execOp, ho, h1, h2, eqGuard_at_int, hr], by simp only [Rep]⟩
section
variable {t t2 : TypeId} {x y : Operand} {k : IntKind} {a b : Int} (hx : reval R x = .raw (.int k a)) (hy : reval R y = .raw (.int k b))
include hx hy
theorem s_add  : Stp P n (.binOp .add t x y t2) ty R H (.raw (.int k (k.wrap (a + b)))) :=
  s_binop_int hx hy (by simp [binOp_add, Op.intArith])
theorem s_sub  : Stp P n (.binOp .sub t x y t2) ty R H (.raw (.int k (k.wrap (a - b)))) :=
  s_binop_int hx hy (by simp [binOp_sub, Op.intArith])
theorem s_mul  : Stp P n (.binOp .mul t x y t2) ty R H (.raw (.int k (k.wrap (a * b)))) :=
  s_binop_int hx hy (by simp [binOp_mul, Op.intArith])
theorem s_quo (hb : b ≠ 0)  : Stp P n (.binOp .quo t x y t2) ty R H (.raw (.int k (k.wrap (a.tdiv b)))) :=
  s_binop_int hx hy (by simp [binOp_quo, Op.intDiv, hb])
theorem s_rem (hb : b ≠ 0)  : Stp P n (.binOp .rem t x y t2) ty R H (.raw (.int k (a.tmod b))) :=
  s_binop_int hx hy (by simp [binOp_rem, Op.intDiv, hb])
theorem s_and  : Stp P n (.binOp .and t x y t2) ty R H (.raw (.int k (bits .and k a b))) :=
  s_binop_int hx hy (by simp [binOp_and, intBits_and])
theorem s_or  : Stp P n (.binOp .or t x y t2) ty R H (.raw (.int k (bits .or k a b))) :=
  s_binop_int hx hy (by simp [binOp_or, intBits_or])
theorem s_xor  : Stp P n (.binOp .xor t x y t2) ty R H (.raw (.int k (bits .xor k a b))) :=
  s_binop_int hx hy (by simp [binOp_xor, intBits_xor])
theorem s_lss  : Stp P n (.binOp .lss t x y t2) ty R H (.raw (.bool (decide (a < b)))) :=
  s_binop_int hx hy (by simp [binOp_lss])
theorem s_leq  : Stp P n (.binOp .leq t x y t2) ty R H (.raw (.bool (decide (a ≤ b)))) :=
  s_binop_int hx hy (by simp [binOp_leq])
theorem s_gtr  : Stp P n (.binOp .gtr t x y t2) ty R H (.raw (.bool (decide (b < a)))) :=
  s_binop_int hx hy (by simp [binOp_gtr])
theorem s_geq  : Stp P n (.binOp .geq t x y t2) ty R H (.raw (.bool (decide (b ≤ a)))) :=
  s_binop_int hx hy (by simp [binOp_geq])
theorem s_eql  : Stp P n (.binOp .eql t x y t2) ty R H (.raw (.bool (decide (a = b)))) :=
  s_binop_int hx hy (by rw [binOp_eql]; rfl)
theorem s_neq  : Stp P n (.binOp .neq t x y t2) ty R H (.raw (.bool (decide (a ≠ b)))) :=
  s_binop_int hx hy (by
    rw [binOp_neq]
    have : (a != b) = decide (a ≠ b) := by rw [Bool.eq_iff_iff]; simp
    rw [this])
end
theorem wrap_i64_id {x : Int} (h1 : -9223372036854775808 ≤ x) (h2 : x ≤ 9223372036854775807) : IntKind.i64.wrap x = x := by rw [IntKind.wrap_i64]; omega
theorem wrap_u64_id {x : Int} (h1 : 0 ≤ x) (h2 : x ≤ 18446744073709551615) : IntKind.u64.wrap x = x := by rw [show IntKind.u64.wrap x = x % 18446744073709551616 from by simp [IntKind.wrap, IntKind.bits, IntKind.signed]]; omega
theorem wrap_u32_id {x : Int} (h1 : 0 ≤ x) (h2 : x ≤ 4294967295) : IntKind.u32.wrap x = x := by rw [IntKind.wrap_u32]; omega
theorem wrap_u8_id {x : Int} (h1 : 0 ≤ x) (h2 : x ≤ 255) : IntKind.u8.wrap x = x := by rw [IntKind.wrap_u8]; omega
section
variable {t t2 : TypeId} {x y : Operand} {a b : Int}
theorem s_add64 (hx : reval R x = .raw (.int .i64 a)) (hy : reval R y = .raw (.int .i64 b)) (h1 : -9223372036854775808 ≤ a + b) (h2 : a + b ≤ 9223372036854775807)  :
    Stp P n (.binOp .add t x y t2) ty R H (.raw (.int .i64 (a + b))) := by have := s_add (P := P) (n := n) (H := H) (ty := ty) (t := t) (t2 := t2) hx hy; rwa [wrap_i64_id h1 h2] at this
theorem s_sub64 (hx : reval R x = .raw (.int .i64 a)) (hy : reval R y = .raw (.int .i64 b)) (h1 : -9223372036854775808 ≤ a - b) (h2 : a - b ≤ 9223372036854775807)  :
    Stp P n (.binOp .sub t x y t2) ty R H (.raw (.int .i64 (a - b))) := by have := s_sub (P := P) (n := n) (H := H) (ty := ty) (t := t) (t2 := t2) hx hy; rwa [wrap_i64_id h1 h2] at this
theorem s_mul64 (hx : reval R x = .raw (.int .i64 a)) (hy : reval R y = .raw (.int .i64 b)) (h1 : -9223372036854775808 ≤ a * b) (h2 : a * b ≤ 9223372036854775807)  :
    Stp P n (.binOp .mul t x y t2) ty R H (.raw (.int .i64 (a * b))) := by have := s_mul (P := P) (n := n) (H := H) (ty := ty) (t := t) (t2 := t2) hx hy; rwa [wrap_i64_id h1 h2] at this
theorem s_addu64 (hx : reval R x = .raw (.int .u64 a)) (hy : reval R y = .raw (.int .u64 b)) (h1 : 0 ≤ a + b) (h2 : a + b ≤ 18446744073709551615)  :
    Stp P n (.binOp .add t x y t2) ty R H (.raw (.int .u64 (a + b))) := by have := s_add (P := P) (n := n) (H := H) (ty := ty) (t := t) (t2 := t2) hx hy; rwa [wrap_u64_id h1 h2] at this
end
theorem s_shl {t t2 : TypeId} {x y : Operand} {k k' : IntKind} {a b : Int} (hx : reval R x = .raw (.int k a)) (hy : reval R y = .raw (.int k' b)) (h0 : 0 ≤ b) (h1 : b ≤ k.bits)
     : Stp P n (.binOp .shl t x y t2) ty R H (.raw (.int k (k.wrap (a * 2 ^ b.toNat)))) :=
  s_binop_int hx hy (by rw [binOp_shl, shift_shl _ _ _ _ h0 h1])
theorem s_shr {t t2 : TypeId} {x y : Operand} {k k' : IntKind} {a b : Int} (hx : reval R x = .raw (.int k a)) (hy : reval R y = .raw (.int k' b)) (h0 : 0 ≤ b) (h1 : b ≤ k.bits)
     : Stp P n (.binOp .shr t x y t2) ty R H (.raw (.int k (a / 2 ^ b.toNat))) :=
  s_binop_int hx hy (by rw [binOp_shr, shift_shr _ _ _ _ h0 h1])
class IntT (P : Program) (t : TypeId) (k : outParam IntKind) : Prop where
  h : P.underlying t = some (.int k)
class KnownT (P : Program) (t : TypeId) : Prop where
  h : (P.underlying t).isSome = true
theorem s_conv {s t : TypeId} {x : Operand} {k k' : IntKind} {a : Int} [hT : IntT P t k'] [hS : KnownT P s] (hx : reval R x = .raw (.int k a))
     : Stp P n (.convert s t x) ty R H (.raw (.int k' (k'.wrap a))) :=
  stp_pure fun o ho _ g ac w hp => by
    have h1 := rv hp hx
    simp only [Rep] at h1
    obtain ⟨d', hd'⟩ := Option.isSome_iff_exists.mp hS.h
    exact ⟨.int k' (k'.wrap a), by simp [execOp, ho, h1, convert, run_underlying hd', run_underlying hT.h, Conv.intToInt], by simp only [Rep]⟩
theorem s_conv_id {s t : TypeId} {x : Operand} {k k' : IntKind} {a : Int} [hT : IntT P t k'] [hS : KnownT P s] (hx : reval R x = .raw (.int k a)) (hw : k'.wrap a = a)
     : Stp P n (.convert s t x) ty R H (.raw (.int k' a)) :=
  by have := s_conv (P := P) (n := n) (H := H) (ty := ty) (s := s) (t := t) (k' := k') hx; rwa [hw] at this
theorem s_not {t : TypeId} {x : Operand} {p : Prop} [Decidable p] (hx : reval R x = .raw (.bool (decide p)))
     : Stp P n (.unOp .not t x) ty R H (.raw (.bool (decide (¬ p)))) :=
  stp_pure fun o ho _ g ac w hp => by
    have h1 := rv hp hx
    simp only [Rep] at h1
    exact ⟨.bool (decide (¬ p)), by simp [execOp, ho, h1, Op.unary], by simp only [Rep]⟩
theorem s_notb {t : TypeId} {x : Operand} {b : Bool} (hx : reval R x = .raw (.bool b))
     : Stp P n (.unOp .not t x) ty R H (.raw (.bool (!b))) :=
  stp_pure fun o ho _ g ac w hp => by
    have h1 := rv hp hx
    simp only [Rep] at h1
    exact ⟨.bool (!b), by simp [execOp, ho, h1, Op.unary], by simp only [Rep]⟩
theorem s_compl {t : TypeId} {x : Operand} {k : IntKind} {a : Int} (hx : reval R x = .raw (.int k a))
     : Stp P n (.unOp .xor t x) ty R H (.raw (.int k (bits .xor k (if k.signed then -1 else k.max) a))) :=
  stp_pure fun o ho _ g ac w hp => by
    have h1 := rv hp hx
    simp only [Rep] at h1
    exact ⟨.int k (bits .xor k (if k.signed then -1 else k.max) a), by simp [execOp, ho, h1, Op.unary, intBits_xor], by simp only [Rep]⟩
theorem s_neg {t : TypeId} {x : Operand} {k : IntKind} {a : Int} (hx : reval R x = .raw (.int k a))
     : Stp P n (.unOp .neg t x) ty R H (.raw (.int k (k.wrap (0 - a)))) :=
  stp_pure fun o ho _ g ac w hp => by
    have h1 := rv hp hx
    simp only [Rep] at h1
    exact ⟨.int k (k.wrap (0 - a)), by simp [execOp, ho, h1, Op.unary, Op.intArith], by simp only [Rep]⟩
end
end Go.Am
namespace Go.Am
open Go
class SliceT (P : Program) (t : TypeId) (e sz bytes : outParam Nat) (z : outParam Value) : Prop where
  h : P.underlying t = some (.slice e)
  i : (P.info? e).map (fun i => (i.zero, i.size, i.bytes)) = some (some z, sz, bytes)
  c : z.cells.size = sz
class CellT (P : Program) (t : TypeId) : Prop where
  a : ∀ w, (isAgg t).run P w = .ok false w
  s : ∀ w, (sizeOf t).run P w = .ok 1 w
class AggT (P : Program) (t : TypeId) (n : outParam Nat) : Prop where
  a : ∀ w, (isAgg t).run P w = .ok true w
  s : ∀ w, (sizeOf t).run P w = .ok n w
class StrT (P : Program) (t : TypeId) : Prop where
  h : P.underlying t = some .string
class FldT (P : Program) (s : TypeId) (f : Nat) (off : outParam Nat) : Prop where
  h : ∃ fs fd, P.underlying s = some (.struct fs) ∧ fs[f]? = some fd ∧ fd.offset = off ∧ (P.info? fd.type).map (fun i => decide (i.size = 0)) = some false
class ZeroT (P : Program) (t : TypeId) (z : outParam Value) : Prop where
  h : ∀ w, (zeroValue t).run P w = .ok z w
theorem SliceT.info {P : Program} {t : TypeId} {e sz bytes : Nat} {z : Value} (h : SliceT P t e sz bytes z) : ∃ i, P.info? e = some i ∧ i.zero = some z ∧ i.size = sz ∧ i.bytes = bytes := by
  have hi := h.i
  cases hq : P.info? e with
  | none => rw [hq] at hi; cases hi
  | some i => rw [hq] at hi; simp at hi; exact ⟨i, rfl, hi.1, hi.2.1, hi.2.2⟩
section
variable {P : Program}
theorem cell_at {w : World} {b k : Nat} {c : Array Value} {e : TypeId} {fz : Nat × Nat} (h : w.heap[b]? = some (.cells c e fz)) : w.cell? ⟨b, k, none⟩ = c[k]? := by simp [World.cell?, h]
theorem frozen_at {w : World} {b k : Nat} {c : Array Value} {e : TypeId} {fz : Nat × Nat} (h : w.heap[b]? = some (.cells c e fz)) (hu : Unfrozen c fz) (hk : k < c.size) : w.frozen? ⟨b, k, none⟩ = false := by
  have := hu k hk
  obtain ⟨lo, hi⟩ := fz
  simp only [World.frozen?, h]
  simp at this ⊢
  omega
theorem heap_setRow {w : World} {b : Nat} {c c' : Array Value} {e : TypeId} {fz : Nat × Nat} (h : w.heap[b]? = some (.cells c e fz)) : (w.setRow b c').heap[b]? = some (.cells c' e fz) := setRow_heap w b c c' e fz h
theorem same_setRow (w : World) (b : Nat) (c : Array Value) : Same w (w.setRow b c) := ⟨rfl, rfl, rfl⟩
theorem run_store_row {w : World} {b k : Nat} {c : Array Value} {e : TypeId} {fz : Nat × Nat} {v : Value} (h : w.heap[b]? = some (.cells c e fz)) (hu : Unfrozen c fz) (hk : k < c.size) (hv : one v) :
    (store ⟨b, k, none⟩ v).run P w = .ok () (w.setRow b (c.setIfInBounds k v)) := by
  rw [run_store P w _ v _ hv, cell_at h, Array.getElem?_eq_getElem hk]
  simp only [frozen_at h hu hk, Bool.false_eq_true, if_false]
  rw [setCell_eq_setRow w b k c e fz v h]
theorem add_lit' (b o k : Nat) : (⟨b, o, none⟩ : Addr).add k = ⟨b, o + k, none⟩ := Addr.add_lit b o k
theorem run_storeCells_row : ∀ (vs : List Value) (i : Nat) {w : World} {b off : Nat} {c : Array Value} {e : TypeId} {fz : Nat × Nat}, w.heap[b]? = some (.cells c e fz) → Unfrozen c fz → off + i + vs.length ≤ c.size → (∀ v ∈ vs, one v) →
    ∃ c' : Array Value, (storeCells ⟨b, off, none⟩ vs i).run P w = .ok () (w.setRow b c') ∧ c'.size = c.size ∧ (∀ j, j < off + i ∨ off + i + vs.length ≤ j → c'[j]? = c[j]?) ∧ ∀ j, j < vs.length → c'[off + i + j]? = vs[j]?
  | [], i, w, b, off, c, e, fz, h, _, _, _ => ⟨c, by simp only [storeCells]; rw [setRow_self w b c e fz h]; rfl, rfl, fun _ _ => rfl, fun j hj => by simp at hj⟩
  | v :: vs, i, w, b, off, c, e, fz, h, hu, hl, h1 => by
    simp at hl
    have hst := run_store_row (P := P) (v := v) h hu (k := off + i) (by omega) (h1 v (by simp))
    obtain ⟨c', hr, hs, ho, hn⟩ := run_storeCells_row vs (i + 1) (w := w.setRow b (c.setIfInBounds (off + i) v)) (off := off) (heap_setRow h) (fun j hj => hu j (by simpa using hj)) (by simp; omega) (fun u hu' => h1 u (by simp [hu']))
    refine ⟨c', by simp only [storeCells, Sem.run_bind, add_lit', hst, Result.andThen_ok, hr, setRow_setRow], by simpa using hs, fun j hj => ?_, fun j hj => ?_⟩
    · simp at hj
      rw [ho j (by omega), Array.getElem?_setIfInBounds_ne (by omega)]
    · cases j with
      | zero =>
        rw [ho (off + i + 0) (by omega)]
        simp only [Nat.add_zero, List.getElem?_cons_zero]
        rw [Array.getElem?_setIfInBounds_self_of_lt (by omega)]
      | succ j =>
        have := hn j (by simpa using hj)
        rw [show off + (i + 1) + j = off + i + (j + 1) from by omega] at this
        simpa using this
theorem run_loadCells_seg {w : World} {b off m : Nat} {c : Array Value} {e : TypeId} {fz : Nat × Nat} (h : w.heap[b]? = some (.cells c e fz)) (hm : off + m ≤ c.size) :
    (loadCells ⟨b, off, none⟩ m).run P w = .ok ((c.toList.drop off).take m).toArray w := by
  have hl := run_loadCells_list (P := P) w ⟨b, off, none⟩ ((c.toList.drop off).take m) (fun j v hj => by
    rw [add_lit', cell_at h]
    rw [List.getElem?_take] at hj
    split at hj
    · rw [List.getElem?_drop] at hj; simpa using hj
    · cases hj)
  have hlen : ((c.toList.drop off).take m).length = m := by simp; omega
  rw [hlen] at hl
  exact hl
theorem seg_get {c : Array Value} {off m i : Nat} (hi : i < m) : ((c.toList.drop off).take m).toArray[i]? = c[off + i]? := by
  simp [hi]
theorem size_mk (bs : List UInt8) : ByteArray.size ⟨bs.toArray⟩ = bs.length := by show bs.toArray.size = _; simp
structure Src (P : Program) (g : Gh) (w : World) (v : Value) (m sz : Nat) (x : AO) : Prop where
  len : x.len = m * sz
  lenOf : ∀ w', (Builtin.lenOf v).run P w' = .ok m w'
  cells : ∃ news : Array Value, news.size = x.len ∧ RepC g x news 0 ∧ (∀ u ∈ news, one u) ∧ ∀ w', w'.heap = w.heap → (Builtin.firstCells sz m v).run P w' = .ok news w'
def SrcA (H : AHeap) (av : AV) (m sz : Nat) (x : AO) : Prop := ∀ P g w v, Sim g H w → Rep g av v → Src P g w v m sz x
theorem src_row {g : Gh} {w : World} {b off m sz cap : Nat} {c : Array Value} {e : TypeId} {fz : Nat × Nat} {x : AO} (h : w.heap[b]? = some (.cells c e fz)) (hx : RepC g x c off) (hl : x.len = m * sz) :
    Src P g w (.slice (some ⟨b, off, none⟩) m cap) m sz x := by
  have hle := hx.len_le
  have hmp : ∀ es, x ≠ .mpo es := fun es e => by subst e; exact hx
  refine ⟨hl, fun _ => rfl, ((c.toList.drop off).take x.len).toArray, by simp; omega, ?_, ?_, fun w' hw => ?_⟩
  · rw [repC_iff hmp]
    refine ⟨by simp; omega, fun i hi => ?_⟩
    obtain ⟨v, hv, ha⟩ := ((repC_iff hmp).1 hx).2 i hi
    exact ⟨v, by rw [Nat.zero_add, seg_get hi]; exact hv, ha⟩
  · intro u hu
    obtain ⟨i, hi, he⟩ := Array.getElem_of_mem hu
    have hi' : i < x.len := by simp at hi; omega
    obtain ⟨v, hv, ha⟩ := ((repC_iff hmp).1 hx).2 i hi'
    have : ((c.toList.drop off).take x.len).toArray[i]? = some u := by rw [Array.getElem?_eq_getElem hi, he]
    rw [seg_get hi', hv] at this
    cases this
    exact AO.at_one ha
  · simp only [Builtin.firstCells]
    rw [← hl]
    exact run_loadCells_seg (by rw [hw]; exact h) hle
theorem src_none {g : Gh} {w : World} {a : Option Addr} {cap sz : Nat} {x : AO} (hx : x.void) : Src P g w (.slice a 0 cap) 0 sz x := by
  have hl : x.len = 0 := by cases x <;> simp_all [AO.void, AO.len]
  refine ⟨by simp [hl], fun _ => rfl, #[], by simp [hl], ?_, by simp, fun w' _ => ?_⟩
  · cases x with
    | byt bs => simp only [AO.void] at hx; subst hx; exact ⟨by simp, fun i x hi => by simp at hi⟩
    | cel xs => simp only [AO.void] at hx; subst hx; exact ⟨by simp, by simp only [RepAt]⟩
    | mpo es => exact hx.elim
  · cases a <;> simp [Builtin.firstCells, loadCells, loadCellsFrom]
theorem srcA_bys (H : AHeap) (bs : List UInt8) : SrcA H (.bys bs) bs.length 1 (.byt bs) := fun P g w v hs hv => by
  simp only [Rep] at hv
  rcases Nat.eq_zero_or_pos bs.length with h0 | h0
  · have hb : bs = [] := List.eq_nil_of_length_eq_zero h0
    subst hb
    rcases hv with ⟨_, a, cap, rfl⟩ | ⟨b, off, cap, c, e, fz, rfl, _, h3, h4⟩ <;> exact src_none rfl
  · rcases hv with ⟨rfl, a, cap, rfl⟩ | ⟨b, off, cap, c, e, fz, rfl, _, h3, h4⟩
    · simp at h0
    · refine src_row (hs.sealed _ _ h3) ⟨?_, h4⟩ (by simp [AO.len])
      have := h4 (bs.length - 1) _ (List.getElem?_eq_getElem (by omega))
      have := (Array.getElem?_eq_some_iff.1 this).1
      omega
theorem srcA_bysx (H : AHeap) (bs : List UInt8) : SrcA H (.bysx bs) bs.length 1 (.byt bs) := fun P g w v hs hv => by
  refine srcA_bys H bs P g w v hs ?_
  simp only [Rep] at hv ⊢
  rcases hv with ⟨rfl, a, rfl⟩ | ⟨b, off, c, e, fz, rfl, h3, h4⟩
  · exact .inl ⟨rfl, a, 0, rfl⟩
  · exact .inr ⟨b, off, _, c, e, fz, rfl, Nat.le_refl _, h3, h4⟩
theorem srcA_sls (H : AHeap) (m sz : Nat) (xs : List AV) (hl : xs.length = m * sz) : SrcA H (.sls m xs) m sz (.cel xs) := fun P g w v hs hv => by
  simp only [Rep] at hv
  rcases Nat.eq_zero_or_pos xs.length with h0 | h0
  · have hb : xs = [] := List.eq_nil_of_length_eq_zero h0
    subst hb
    rcases hv with ⟨rfl, _, a, cap, rfl⟩ | ⟨b, off, cap, c, e, fz, rfl, _, h3, h4⟩
    · exact src_none rfl
    · refine ⟨hl, fun _ => rfl, #[], by simp [AO.len], ⟨by simp, by simp only [RepAt]⟩, by simp, fun w' _ => ?_⟩
      simp only [List.length_nil] at hl
      simp [Builtin.firstCells, ← hl, loadCells, loadCellsFrom]
  · rcases hv with ⟨rfl, rfl, a, cap, rfl⟩ | ⟨b, off, cap, c, e, fz, rfl, _, h3, h4⟩
    · simp at h0
    · refine src_row (hs.sealed _ _ h3) ⟨?_, h4⟩ (by simpa [AO.len] using hl)
      obtain ⟨u, hu, _⟩ := (repAt_iff _ _ _).1 h4 (xs.length - 1) _ (List.getElem?_eq_getElem (by omega))
      have := (Array.getElem?_eq_some_iff.1 hu).1
      omega
theorem srcA_slsx (H : AHeap) (m sz : Nat) (xs : List AV) (hl : xs.length = m * sz) : SrcA H (.slsx m xs) m sz (.cel xs) := fun P g w v hs hv => by
  refine srcA_sls H m sz xs hl P g w v hs ?_
  simp only [Rep] at hv ⊢
  rcases hv with ⟨rfl, rfl, a, rfl⟩ | ⟨b, off, c, e, fz, rfl, h3, h4⟩
  · exact .inl ⟨rfl, rfl, a, 0, rfl⟩
  · exact .inr ⟨b, off, _, c, e, fz, rfl, Nat.le_refl _, h3, h4⟩
theorem srcA_nil (H : AHeap) (sz : Nat) (x : AO) (hx : x.void) : SrcA H (.raw (.slice none 0 0)) 0 sz x := fun P g w v hs hv => by
  simp only [Rep] at hv
  subst hv
  exact src_none hx
theorem srcA_emp (H : AHeap) (sz : Nat) (x : AO) (hx : x.void) : SrcA H .emp 0 sz x := fun P g w v hs hv => by
  simp only [Rep] at hv
  obtain ⟨a, rfl⟩ := hv
  exact src_none hx
theorem srcA_str (H : AHeap) (bs : List UInt8) : SrcA H (.str bs) bs.length 1 (.byt bs) := fun P g w v hs hv => by
  simp only [Rep] at hv
  subst hv
  refine ⟨by simp [AO.len], fun _ => by simp [Builtin.lenOf, ByteArray.size], (bs.map fun b => Value.int .u8 (b.toNat : Int)).toArray, by simp [AO.len], ⟨by simp, fun i x hi => by simp [hi]⟩, fun u hu => ?_, fun w' _ => ?_⟩
  · simp at hu
    obtain ⟨b, _, rfl⟩ := hu
    rfl
  · simp only [Builtin.firstCells, Sem.run_pure]
    congr 1
    have : (ByteArray.extract ⟨bs.toArray⟩ 0 bs.length).data = bs.toArray := by
      rw [ByteArray.data_extract]
      simp
    rw [this]
    simp
theorem segAO_len {x : AO} {off k : Nat} (h : off + k ≤ x.len) (hm : ∀ es, x ≠ .mpo es) : (x.seg off k).len = k := by
  cases x with
  | byt bs => simp [AO.seg, AO.len] at h ⊢; omega
  | cel xs => simp [AO.seg, AO.len] at h ⊢; omega
  | mpo es => exact absurd rfl (hm es)
theorem srcA_vw (H : AHeap) (o sz off len : Nat) (x : AO) (hx : H o = some x) (hm : ∀ es, x ≠ .mpo es) (hl : off + len * sz ≤ x.len) : SrcA H (.vw o sz off len) len sz (x.seg off (len * sz)) := fun P g w v hs hv => by
  simp only [Rep] at hv
  have hvoid : len = 0 → (x.seg off (len * sz)).void := fun h0 => by
    subst h0
    cases x with
    | byt bs => simp [AO.seg, AO.void]
    | cel xs => simp [AO.seg, AO.void]
    | mpo es => exact absurd rfl (hm es)
  rcases hv with ⟨l, cap, h1, rfl, h3, h4⟩ | ⟨rfl, a, rfl⟩
  · rcases hs.objs o x hx with ⟨_, h⟩ | ⟨l', c, e, fz, k1, k2, k3, k4, k5⟩ | ⟨_, es, _, _, he, _⟩ | ⟨_, _, _, _, hq⟩
    · rw [h] at h1; cases h1
    · rw [k1] at h1; cases h1
      exact src_row k2 (k5.seg hl) (segAO_len hl hm)
    · exact absurd he (hm es)
    · obtain ⟨_, _, he⟩ := hq.mp; exact absurd he (hm _)
  · exact src_none (hvoid rfl)
section
variable {n : Nat} {K : Exit → Regs → AHeap → Prop} {R : Regs} {H : AHeap} {ops : Array Oper} {rest : List Oper} {ty : TypeId}
theorem SrcA.slice {av : AV} {m sz : Nat} {x : AO} (h : SrcA H av m sz x) {g : Gh} {w : World} {v : Value} (hs : Sim g H w) (hv : Rep g av v) (w' : World) : (Builtin.lenOf v).run P w' = .ok m w' := (h P g w v hs hv).lenOf w'
theorem s_len {t e sz bytes : Nat} {z : Value} {x : Operand} {av : AV} {m sz' : Nat} {c : AO} [hT : SliceT P t e sz bytes z] (hx : reval R x = av) (hsrc : SrcA H av m sz' c) (hsl : ∀ g v, Rep g av v → ∃ a k cap, v = .slice a k cap) :
    Stp P n (.call { callee := .builtin .len, args := #[x], argTypes := #[t] }) ty R H (.raw (.int .i64 (m : Int))) :=
  stp_pure fun o ho ht g a w hp => by
    have hv := rv hp hx
    obtain ⟨ad, k, cap, he⟩ := hsl g _ hv
    have hl := (hsrc P g w _ hp.sim hv).lenOf w
    rw [he] at hl
    simp [Builtin.lenOf] at hl
    subst hl
    exact ⟨.int .i64 (k : Int), by simp [execOp, ho, resolve, invoke, builtin, he, Builtin.len_, run_underlying hT.h, goInt], by simp only [Rep]⟩
theorem sl_bys (bs : List UInt8) : ∀ g v, Rep g (.bys bs) v → ∃ a k cap, v = .slice a k cap := fun g v h => by
  simp only [Rep] at h
  rcases h with ⟨_, a, cap, rfl⟩ | ⟨b, off, cap, c, e, fz, rfl, _⟩ <;> exact ⟨_, _, _, rfl⟩
theorem sl_sls (m : Nat) (xs : List AV) : ∀ g v, Rep g (.sls m xs) v → ∃ a k cap, v = .slice a k cap := fun g v h => by
  simp only [Rep] at h
  rcases h with ⟨_, _, a, cap, rfl⟩ | ⟨b, off, cap, c, e, fz, rfl, _⟩ <;> exact ⟨_, _, _, rfl⟩
theorem sl_bysx (bs : List UInt8) : ∀ g v, Rep g (.bysx bs) v → ∃ a k cap, v = .slice a k cap := fun g v h => by
  simp only [Rep] at h
  rcases h with ⟨_, a, rfl⟩ | ⟨b, off, c, e, fz, rfl, _⟩ <;> exact ⟨_, _, _, rfl⟩
theorem sl_slsx (m : Nat) (xs : List AV) : ∀ g v, Rep g (.slsx m xs) v → ∃ a k cap, v = .slice a k cap := fun g v h => by
  simp only [Rep] at h
  rcases h with ⟨_, _, a, rfl⟩ | ⟨b, off, c, e, fz, rfl, _⟩ <;> exact ⟨_, _, _, rfl⟩
theorem sl_vw (o sz off len : Nat) : ∀ g v, Rep g (.vw o sz off len) v → ∃ a k cap, v = .slice a k cap := fun g v h => by
  simp only [Rep] at h
  rcases h with ⟨l, cap, _, rfl, _⟩ | ⟨_, a, rfl⟩ <;> exact ⟨_, _, _, rfl⟩
theorem sl_nil : ∀ g v, Rep g (.raw (.slice none 0 0)) v → ∃ a k cap, v = .slice a k cap := fun g v h => by
  simp only [Rep] at h; exact ⟨_, _, _, h⟩
theorem sl_emp : ∀ g v, Rep g .emp v → ∃ a k cap, v = .slice a k cap := fun g v h => by
  simp only [Rep] at h; obtain ⟨a, h⟩ := h; exact ⟨_, _, _, h⟩
section
variable {t e sz bytes : Nat} {z : Value} {x : Operand} [hT : SliceT P t e sz bytes z]
include hT
theorem s_len_bys {bs : List UInt8} (hx : reval R x = .bys bs) : Stp P n (.call { callee := .builtin .len, args := #[x], argTypes := #[t] }) ty R H (.raw (.int .i64 (bs.length : Int))) := s_len (hT := hT) hx (srcA_bys H bs) (sl_bys bs)
theorem s_len_bysx {bs : List UInt8} (hx : reval R x = .bysx bs) : Stp P n (.call { callee := .builtin .len, args := #[x], argTypes := #[t] }) ty R H (.raw (.int .i64 (bs.length : Int))) := s_len (hT := hT) hx (srcA_bysx H bs) (sl_bysx bs)
theorem s_len_nil (hx : reval R x = .raw (.slice none 0 0)) : Stp P n (.call { callee := .builtin .len, args := #[x], argTypes := #[t] }) ty R H (.raw (.int .i64 0)) := s_len (m := 0) (hT := hT) hx (srcA_nil H 1 (.byt []) rfl) sl_nil
theorem s_len_emp (hx : reval R x = .emp) : Stp P n (.call { callee := .builtin .len, args := #[x], argTypes := #[t] }) ty R H (.raw (.int .i64 0)) := s_len (m := 0) (hT := hT) hx (srcA_emp H 1 (.byt []) rfl) sl_emp
theorem s_len_sls {m : Nat} {xs : List AV} (hx : reval R x = .sls m xs) : Stp P n (.call { callee := .builtin .len, args := #[x], argTypes := #[t] }) ty R H (.raw (.int .i64 (m : Int))) :=
  stp_pure fun o ho ht g a w hp => by
    have hv := rv hp hx
    simp only [Rep] at hv
    rcases hv with ⟨rfl, _, ad, cap, he⟩ | ⟨b, off, cap, c, e, fz, he, _⟩
    · exact ⟨.int .i64 0, by simp [execOp, ho, resolve, invoke, builtin, he, Builtin.len_, run_underlying hT.h, goInt], by simp only [Rep]; rfl⟩
    · exact ⟨.int .i64 (m : Int), by simp [execOp, ho, resolve, invoke, builtin, he, Builtin.len_, run_underlying hT.h, goInt], by simp only [Rep]⟩
theorem s_len_slsx {m : Nat} {xs : List AV} (hx : reval R x = .slsx m xs) : Stp P n (.call { callee := .builtin .len, args := #[x], argTypes := #[t] }) ty R H (.raw (.int .i64 (m : Int))) :=
  stp_pure fun o ho ht g a w hp => by
    have hv := rv hp hx
    simp only [Rep] at hv
    rcases hv with ⟨rfl, _, ad, he⟩ | ⟨b, off, c, e, fz, he, _⟩
    · exact ⟨.int .i64 0, by simp [execOp, ho, resolve, invoke, builtin, he, Builtin.len_, run_underlying hT.h, goInt], by simp only [Rep]; rfl⟩
    · exact ⟨.int .i64 (m : Int), by simp [execOp, ho, resolve, invoke, builtin, he, Builtin.len_, run_underlying hT.h, goInt], by simp only [Rep]⟩
theorem s_len_vw {ob s off len : Nat} (hx : reval R x = .vw ob s off len) : Stp P n (.call { callee := .builtin .len, args := #[x], argTypes := #[t] }) ty R H (.raw (.int .i64 (len : Int))) :=
  stp_pure fun o ho ht g a w hp => by
    have hv := rv hp hx
    simp only [Rep] at hv
    rcases hv with ⟨l, cap, _, he, _⟩ | ⟨rfl, ad, he⟩
    · exact ⟨.int .i64 (len : Int), by simp [execOp, ho, resolve, invoke, builtin, he, Builtin.len_, run_underlying hT.h, goInt], by simp only [Rep]⟩
    · exact ⟨.int .i64 0, by simp [execOp, ho, resolve, invoke, builtin, he, Builtin.len_, run_underlying hT.h, goInt], by simp only [Rep]; rfl⟩
end
theorem s_len_str {t : TypeId} {x : Operand} {bs : List UInt8} [hT : StrT P t] (hx : reval R x = .str bs) : Stp P n (.call { callee := .builtin .len, args := #[x], argTypes := #[t] }) ty R H (.raw (.int .i64 (bs.length : Int))) :=
  stp_pure fun o ho ht g a w hp => by
    have hv := rv hp hx
    simp only [Rep] at hv
    exact ⟨.int .i64 (bs.length : Int), by simp [execOp, ho, resolve, invoke, builtin, hv, Builtin.len_, run_underlying hT.h, goInt, size_mk], by simp only [Rep]⟩
theorem s_nilCheck_ptr {x : Operand} {ob off : Nat} (hx : reval R x = .ptr ob off) : Stp P n (.nilCheck x) ty R H (.ptr ob off) :=
  stp_pure fun o ho ht g a w hp => by
    have hv := rv hp hx
    have hv' := hv
    simp only [Rep] at hv
    obtain ⟨l, _, he⟩ := hv
    exact ⟨a.eval x, by simp [execOp, ho, he], hv'⟩
theorem s_nilCheck_pce {x : Operand} {xs : List AV} {i : Nat} (hx : reval R x = .pce xs i) : Stp P n (.nilCheck x) ty R H (.pce xs i) :=
  stp_pure fun o ho ht g a w hp => by
    have hv := rv hp hx
    have hv' := hv
    simp only [Rep] at hv
    obtain ⟨b, off, c, e, fz, he, _⟩ := hv
    exact ⟨a.eval x, by simp [execOp, ho, he], hv'⟩
theorem s_nilCheck_raw {x : Operand} {b k : Nat} (hx : reval R x = .raw (.pointer (some ⟨b, k, none⟩))) : Stp P n (.nilCheck x) ty R H (.raw (.pointer (some ⟨b, k, none⟩))) :=
  stp_pure fun o ho ht g a w hp => by
    have hv := rv hp hx
    have hv' := hv
    simp only [Rep] at hv
    exact ⟨a.eval x, by simp [execOp, ho, hv], hv'⟩
theorem run_fieldAt {s f off : Nat} [hF : FldT P s f off] (b k : Nat) (w : World) : (Instr.fieldAt s (.pointer (some ⟨b, k, none⟩)) f).run P w = .ok (.pointer (some ⟨b, k + off, none⟩)) w := by
  obtain ⟨fs, fd, h1, h2, rfl, h4⟩ := hF.h
  cases hi : P.info? fd.type with
  | none => rw [hi] at h4; cases h4
  | some i =>
    rw [hi] at h4
    simp at h4
    simp [Instr.fieldAt, run_underlying h1, h2, Instr.sureAddr, fieldPlace, sizeOf, typeInfo, hi, h4, add_lit']
theorem s_fieldAddr_ptr {s : TypeId} {x : Operand} {f ob k off : Nat} [hF : FldT P s f off] (hx : reval R x = .ptr ob k) : Stp P n (.fieldAddr s x f) ty R H (.ptr ob (k + off)) :=
  stp_pure fun o ho ht g a w hp => by
    have hv := rv hp hx
    simp only [Rep] at hv
    obtain ⟨l, hl, he⟩ := hv
    exact ⟨.pointer (some ⟨l.blk, l.base + k + off, none⟩), by simp [execOp, ho, he, run_fieldAt], by simp only [Rep]; exact ⟨l, hl, by rw [Nat.add_assoc]⟩⟩
theorem s_fieldAddr_pce {s : TypeId} {x : Operand} {f k off : Nat} {xs : List AV} [hF : FldT P s f off] (hx : reval R x = .pce xs k) : Stp P n (.fieldAddr s x f) ty R H (.pce xs (k + off)) :=
  stp_pure fun o ho ht g a w hp => by
    have hv := rv hp hx
    simp only [Rep] at hv
    obtain ⟨b, o2, c, e, fz, he, h2⟩ := hv
    exact ⟨.pointer (some ⟨b, o2 + k + off, none⟩), by simp [execOp, ho, he, run_fieldAt], by simp only [Rep]; exact ⟨b, o2, c, e, fz, by rw [Nat.add_assoc], h2⟩⟩
theorem run_loadAt_cell {t : TypeId} [hC : CellT P t] {w : World} {b k : Nat} {v : Value} (h : w.cell? ⟨b, k, none⟩ = some v) : (Instr.loadAt t (.pointer (some ⟨b, k, none⟩))).run P w = .ok v w := by
  simp [Instr.loadAt, Instr.sureAddr, loadVar, hC.a, h]
theorem row_of {g : Gh} {w : World} {H : AHeap} (hs : Sim g H w) {ob : Nat} {x : AO} (hx : H ob = some x) (hm : ∀ es, x ≠ .mpo es) {l : Loc} (hl : g.loc ob = some l) :
    ∃ c e fz, w.heap[l.blk]? = some (.cells c e fz) ∧ c.size = l.size ∧ Unfrozen c fz ∧ RepC g x c l.base := by
  rcases hs.objs ob x hx with ⟨_, h⟩ | ⟨l', c, e, fz, k1, k2, k3, k4, k5⟩ | ⟨_, es, _, _, he, _⟩ | ⟨_, _, _, _, hq⟩
  · rw [h] at hl; cases hl
  · rw [k1] at hl; cases hl
    exact ⟨c, e, fz, k2, k3, k4, k5⟩
  · exact absurd he (hm es)
  · obtain ⟨_, _, he⟩ := hq.mp; exact absurd he (hm _)
theorem s_load_cel {t : TypeId} {x : Operand} {ob k : Nat} {xs : List AV} {y : AV} [hC : CellT P t] (hx : reval R x = .ptr ob k) (hH : H ob = some (.cel xs)) (hy : xs[k]? = some y) : Stp P n (.load t x) ty R H y :=
  stp_pure fun o ho ht g a w hp => by
    have hv := rv hp hx
    simp only [Rep] at hv
    obtain ⟨l, hl, he⟩ := hv
    obtain ⟨c, e, fz, h1, h2, h3, h4⟩ := row_of hp.sim hH (fun _ h => by cases h) hl
    obtain ⟨u, hu, _, hr⟩ := (repAt_iff _ _ _).1 h4.2 k y hy
    exact ⟨u, by simp [execOp, ho, he, run_loadAt_cell (P := P) (t := t) ((cell_at h1).trans hu)], hr⟩
theorem s_load_byt {t : TypeId} {x : Operand} {ob k : Nat} {bs : List UInt8} [hC : CellT P t] (hx : reval R x = .ptr ob k) (hH : H ob = some (.byt bs)) (hk : k < bs.length) : Stp P n (.load t x) ty R H (.raw (.int .u8 ((bs.getD k 0).toNat : Int))) :=
  stp_pure fun o ho ht g a w hp => by
    have hv := rv hp hx
    simp only [Rep] at hv
    obtain ⟨l, hl, he⟩ := hv
    obtain ⟨c, e, fz, h1, h2, h3, h4⟩ := row_of hp.sim hH (fun _ h => by cases h) hl
    have hu := h4.2 k _ (List.getElem?_eq_getElem hk)
    exact ⟨_, by simp [execOp, ho, he, run_loadAt_cell (P := P) (t := t) ((cell_at h1).trans hu)]; rfl, by simp only [Rep]; simp [List.getD, List.getElem?_eq_getElem hk]⟩
theorem s_load_pby {t : TypeId} {x : Operand} {k : Nat} {bs : List UInt8} [hC : CellT P t] (hx : reval R x = .pby bs k) (hk : k < bs.length) : Stp P n (.load t x) ty R H (.raw (.int .u8 ((bs.getD k 0).toNat : Int))) :=
  stp_pure fun o ho ht g a w hp => by
    have hv := rv hp hx
    simp only [Rep] at hv
    obtain ⟨b, off, c, e, fz, he, h2, h3⟩ := hv
    have hu := h3 k _ (List.getElem?_eq_getElem hk)
    exact ⟨_, by simp [execOp, ho, he, run_loadAt_cell (P := P) (t := t) ((cell_at (hp.sim.sealed _ _ h2)).trans hu)]; rfl, by simp only [Rep]; simp [List.getD, List.getElem?_eq_getElem hk]⟩
theorem s_load_pce {t : TypeId} {x : Operand} {k : Nat} {xs : List AV} {y : AV} [hC : CellT P t] (hx : reval R x = .pce xs k) (hy : xs[k]? = some y) : Stp P n (.load t x) ty R H y :=
  stp_pure fun o ho ht g a w hp => by
    have hv := rv hp hx
    simp only [Rep] at hv
    obtain ⟨b, off, c, e, fz, he, h2, h3⟩ := hv
    obtain ⟨u, hu, _, hr⟩ := (repAt_iff _ _ _).1 h3 k y hy
    exact ⟨u, by simp [execOp, ho, he, run_loadAt_cell (P := P) (t := t) ((cell_at (hp.sim.sealed _ _ h2)).trans hu)], hr⟩
theorem repL_seg {g : Gh} {xs : List AV} {c : Array Value} {k m : Nat} (h : RepAt g xs c k) (hm : xs.length = m) : RepL g xs ((c.toList.drop k).take m) := by
  rw [repL_iff]
  have hall := (repAt_iff _ _ _).1 h
  have hsz : m = 0 ∨ k + m ≤ c.size := by
    rcases Nat.eq_zero_or_pos m with h0 | h0
    · exact .inl h0
    · obtain ⟨u, hu, _⟩ := hall (xs.length - 1) _ (List.getElem?_eq_getElem (by omega))
      have := (Array.getElem?_eq_some_iff.1 hu).1
      exact .inr (by omega)
  refine ⟨?_, fun i y hi => ?_⟩
  · rcases hsz with h0 | h0
    · subst h0; simp [hm]
    · simp; omega
  · obtain ⟨u, hu, _, hr⟩ := hall i y hi
    have hlt := (List.getElem?_eq_some_iff.1 hi).1
    refine ⟨u, ?_, hr⟩
    rw [List.getElem?_take, if_pos (by omega), List.getElem?_drop]
    simpa using hu
theorem run_loadAt_agg {t m : Nat} [hA : AggT P t m] {w : World} {b k : Nat} {c : Array Value} {e : TypeId} {fz : Nat × Nat} (h : w.heap[b]? = some (.cells c e fz)) (hm : k + m ≤ c.size) :
    (Instr.loadAt t (.pointer (some ⟨b, k, none⟩))).run P w = .ok (.agg ((c.toList.drop k).take m).toArray) w := by
  simp [Instr.loadAt, Instr.sureAddr, loadVar, hA.a, hA.s, run_loadCells_seg (P := P) h hm]
theorem s_load_agg {t : TypeId} {x : Operand} {ob k m : Nat} {xs ys : List AV} [hA : AggT P t m] (hx : reval R x = .ptr ob k) (hH : H ob = some (.cel xs)) (hy : (xs.drop k).take m = ys) (hm : ys.length = m) (hk : k + m ≤ xs.length) : Stp P n (.load t x) ty R H (.agg ys) :=
  stp_pure fun o ho ht g a w hp => by
    have hv := rv hp hx
    simp only [Rep] at hv
    obtain ⟨l, hl, he⟩ := hv
    obtain ⟨c, e, fz, h1, h2, h3, h4⟩ := row_of hp.sim hH (fun _ h => by cases h) hl
    have hr : RepAt g ys c (l.base + k) := hy ▸ repAt_take (repAt_drop h4.2 k) m
    refine ⟨.agg ((c.toList.drop (l.base + k)).take m).toArray, by simp [execOp, ho, he, run_loadAt_agg (P := P) (t := t) (m := m) h1 (k := l.base + k) (by have := h4.1; omega)], ?_⟩
    simp only [Rep]
    exact ⟨_, rfl, by simpa using repL_seg hr hm⟩
theorem s_load_pce_agg {t : TypeId} {x : Operand} {k m : Nat} {xs ys : List AV} [hA : AggT P t m] (hx : reval R x = .pce xs k) (hy : (xs.drop k).take m = ys) (hm : ys.length = m) (h0 : 0 < m) : Stp P n (.load t x) ty R H (.agg ys) :=
  stp_pure fun o ho ht g a w hp => by
    have hv := rv hp hx
    simp only [Rep] at hv
    obtain ⟨b, off, c, e, fz, he, h2, h3⟩ := hv
    have hr : RepAt g ys c (off + k) := hy ▸ repAt_take (repAt_drop h3 k) m
    obtain ⟨u, hu, _⟩ := (repAt_iff _ _ _).1 hr (m - 1) _ (List.getElem?_eq_getElem (by omega))
    have hsz := (Array.getElem?_eq_some_iff.1 hu).1
    refine ⟨.agg ((c.toList.drop (off + k)).take m).toArray, by simp [execOp, ho, he, run_loadAt_agg (P := P) (t := t) (m := m) (hp.sim.sealed _ _ h2) (k := off + k) (by omega)], ?_⟩
    simp only [Rep]
    exact ⟨_, rfl, by simpa using repL_seg hr hm⟩
end
end
end Go.Am
namespace Go.Am
open Go
class NotIntT (P : Program) (t : TypeId) : Prop where
  h : (∃ e, P.underlying t = some (.slice e)) ∨ P.underlying t = some .string
section
variable {P : Program}
theorem run_append_grow' {t t2 ty e sz bytes : Nat} {z : Value} [hT : SliceT P t e sz bytes z] [h2 : NotIntT P t2] {w : World} {x : Value} {base : Option Addr} {sLen sCap m : Nat} {news old : Array Value}
    (hlen : ∀ w', (Builtin.lenOf x).run P w' = .ok m w') (hnew : ∀ w', w'.heap = w.heap → (Builtin.firstCells sz m x).run P w' = .ok news w')
    (hold : ∀ w', w'.heap = w.heap → (Builtin.firstCells sz sLen (.slice base sLen sCap)).run P w' = .ok old w') (hg : sCap < sLen + m) (h63 : sLen + m ≤ 9223372036854775807) (hb : (sLen + m) * bytes ≤ 140737488355328) :
    ∃ cap, sLen + m ≤ cap ∧ (Builtin.append_ #[t, t2] ty #[.slice base sLen sCap, x]).run P w =
      .ok (.slice (some ⟨w.heap.size, 0, none⟩) (sLen + m) cap) (w.drew.alloc (.cells (old ++ news ++ Builtin.zeroCells z.cells (cap - (sLen + m))) e)) := by
  obtain ⟨i, hi, hz, hs, hby⟩ := hT.info
  subst hs
  subst hby
  have hfit := growslice_fits hg hb
  have hn : ¬ (sLen + m ≤ sCap) := by omega
  have h63' : ¬ (9223372036854775807 < ((sLen : Int) + (m : Int))) := by omega
  have h48' : ¬ (281474976710656 < Builtin.nextslicecap (sLen + m) sCap * i.bytes) := by omega
  refine ⟨grownCap w (sLen + m) sCap e, grownCap_ge w _ _ _, ?_⟩
  rcases h2.h with ⟨e2, hd⟩ | hd <;>
    simp [Builtin.append_, run_underlying hT.h, run_underlying hd, sizeOf, typeInfo, zeroValue, hi, hz, hlen, hn, h63', h48', Question.forced, hnew w.drew rfl, hold w.drew rfl, newRow, grownCap]
theorem run_append_room' {t t2 ty e sz bytes : Nat} {z : Value} [hT : SliceT P t e sz bytes z] [h2 : NotIntT P t2] {w : World} {x : Value} {base : Option Addr} {sLen sCap m : Nat} {news : Array Value}
    (hlen : ∀ w', (Builtin.lenOf x).run P w' = .ok m w') (hnew : ∀ w', w'.heap = w.heap → (Builtin.firstCells sz m x).run P w' = .ok news w') (hr : sLen + m ≤ sCap) :
    (Builtin.append_ #[t, t2] ty #[.slice base sLen sCap, x]).run P w =
      match base with
      | none => .ok (.slice none (sLen + m) sCap) w
      | some a => ((storeCells (a.add (sLen * sz)) news.toList).run P w).andThen fun _ w' => .ok (.slice (some a) (sLen + m) sCap) w' := by
  obtain ⟨i, hi, hz, hs, hby⟩ := hT.info
  subst hs
  rcases h2.h with ⟨e2, hd⟩ | hd <;> cases base <;> simp [Builtin.append_, run_underlying hT.h, run_underlying hd, sizeOf, typeInfo, hi, hlen, hr, hnew w rfl]
def sealAV (k : Nat) : AO → AV
  | .byt bs => .bys bs
  | .cel xs => .sls k xs
  | .mpo _ => .unk
theorem rep_sealAV {g : Gh} {b off k sz cap : Nat} {c : Array Value} {e : TypeId} {fz : Nat × Nat} {x : AO} (h : g.h b = some (.cells c e fz)) (hx : RepC g x c off) (hl : x.len = k * sz) (hsz : ∀ bs, x = .byt bs → sz = 1) (hk : k ≤ cap) :
    Rep g (sealAV k x) (.slice (some ⟨b, off, none⟩) k cap) := by
  cases x with
  | byt bs =>
    have h1 := hsz bs rfl
    subst h1
    simp only [AO.len, Nat.mul_one] at hl
    subst hl
    simp only [sealAV, Rep]
    exact .inr ⟨b, off, cap, c, e, fz, rfl, hk, h, hx.2⟩
  | cel xs =>
    simp only [sealAV, Rep]
    exact .inr ⟨b, off, cap, c, e, fz, rfl, hk, h, hx.2⟩
  | mpo es => exact hx.elim
theorem RepC.append {g : Gh} {x y : AO} {c1 c2 : Array Value} (h1 : RepC g x c1 0) (s1 : c1.size = x.len) (h2 : RepC g y c2 0) (s2 : c2.size = y.len) (hl : x.like y) (c3 : Array Value) : RepC g (x.app y) (c1 ++ c2 ++ c3) 0 := by
  have k1 : ∀ i, i < x.len → (c1 ++ c2 ++ c3)[i]? = c1[i]? := fun i hi => by
    rw [Array.getElem?_append_left (by simp; omega), Array.getElem?_append_left (by omega)]
  have k2 : ∀ i, ¬ i < x.len → i < x.len + y.len → (c1 ++ c2 ++ c3)[i]? = c2[i - x.len]? := fun i hi hj => by
    rw [Array.getElem?_append_left (by simp; omega), Array.getElem?_append_right (by omega), s1]
  cases x with
  | byt a =>
    cases y with
    | byt b =>
      refine ⟨by simp; simp only [AO.len] at s1 s2; omega, fun i z hi => ?_⟩
      have hlt : i < (AO.byt a).len + (AO.byt b).len := by have := (List.getElem?_eq_some_iff.1 hi).1; simpa [AO.len] using this
      rw [Nat.zero_add]
      rw [List.getElem?_append] at hi
      by_cases h : i < a.length
      · rw [if_pos h] at hi; rw [k1 i h]; have := h1.2 i z hi; rwa [Nat.zero_add] at this
      · rw [if_neg h] at hi; rw [k2 i h hlt]; have := h2.2 _ z hi; rwa [Nat.zero_add] at this
    | cel b => exact hl.elim
    | mpo es => exact hl.elim
  | cel a =>
    cases y with
    | cel b =>
      refine ⟨by simp; simp only [AO.len] at s1 s2; omega, (repAt_iff _ _ _).2 fun i z hi => ?_⟩
      have hlt : i < (AO.cel a).len + (AO.cel b).len := by have := (List.getElem?_eq_some_iff.1 hi).1; simpa [AO.len] using this
      rw [Nat.zero_add]
      rw [List.getElem?_append] at hi
      by_cases h : i < a.length
      · rw [if_pos h] at hi; rw [k1 i h]; have := (repAt_iff _ _ _).1 h1.2 i z hi; rwa [Nat.zero_add] at this
      · rw [if_neg h] at hi; rw [k2 i h hlt]; have := (repAt_iff _ _ _).1 h2.2 _ z hi; rwa [Nat.zero_add] at this
    | byt b => exact hl.elim
    | mpo es => exact hl.elim
  | mpo es => exact hl.elim
theorem RepC.padded {g : Gh} {x : AO} {c : Array Value} (h : RepC g x c 0) (c3 : Array Value) : RepC g x (#[] ++ c ++ c3) 0 := by
  have hk : ∀ i, i < c.size → (#[] ++ c ++ c3)[i]? = c[i]? := fun i hi => by simp [Array.getElem?_append_left hi]
  have hle := h.len_le
  have hmx : ∀ es, x ≠ .mpo es := fun es e => by subst e; exact h
  rw [repC_iff hmx] at h ⊢
  refine ⟨by simp; omega, fun i hi => ?_⟩
  obtain ⟨v, hv, ha⟩ := h.2 i hi
  exact ⟨v, by rw [Nat.zero_add, hk i (by omega)]; rwa [Nat.zero_add] at hv, ha⟩
theorem AO.len_app {x y : AO} (hl : x.like y) : (x.app y).len = x.len + y.len := by
  cases x <;> cases y <;> simp_all [AO.like, AO.app, AO.len]
theorem AO.app_void {x y : AO} (hl : x.like y) (hy : y.len = 0) : x.app y = x := by
  cases x <;> cases y <;> simp_all [AO.like, AO.app, AO.len]
theorem AO.void_app {x y : AO} (hl : x.like y) (hx : x.len = 0) : x.app y = y := by
  cases x <;> cases y <;> simp_all [AO.like, AO.app, AO.len]
theorem AO.void_of_len {x : AO} (hm : ∀ es, x ≠ .mpo es) (h : x.len = 0) : x.void := by
  cases x with
  | mpo es => exact absurd rfl (hm es)
  | _ => simpa [AO.len, AO.void] using h
section
variable {n : Nat} {K : Exit → Regs → AHeap → Prop} {R : Regs} {H : AHeap} {ops : Array Oper} {rest : List Oper} {ty : TypeId} {d : Tmp} {pos : String} {af : Array Edge}
theorem unfrozen00 (c : Array Value) : Unfrozen c (0, 0) := fun i _ h => by simp at h
theorem s_append_x {t t2 e sz bytes : Nat} {z : Value} [hT : SliceT P t e sz bytes z] [h2 : NotIntT P t2] {s x : Operand} {av bv : AV} {k m : Nat} {xd xs : AO}
    (hs : reval R s = av) (hx : reval R x = bv) (hd : SrcA H av k sz xd) (hdx : ∀ g v, Rep g av v → ∃ base, v = .slice base k k) (hdr : ∀ g v, Rep g av v → Rep g (sealAV k xd) v) (hb : SrcA H bv m sz xs) (hl : xd.like xs) (hsz : ∀ bs, xd = .byt bs → sz = 1)
    (h63 : k + m ≤ 9223372036854775807) (hby : (k + m) * bytes ≤ 140737488355328) :
    Stp P n (.call { callee := .builtin .append, args := #[s, x], argTypes := #[t, t2] }) ty R H (sealAV (k + m) (xd.app xs)) :=
  stp_run fun o ho ht g a w hp => by
    have hv := rv hp hs
    have hu := rv hp hx
    obtain ⟨base, he⟩ := hdx g _ hv
    have s1 := hd P g w _ hp.sim hv
    have s2 := hb P g w _ hp.sim hu
    obtain ⟨old, o1, o2, o3, o4⟩ := s1.cells
    obtain ⟨news, n1, n2, n3, n4⟩ := s2.cells
    rw [he] at o4
    rcases Nat.eq_zero_or_pos m with h0 | h0
    · subst h0
      have hx0 : xs.len = 0 := by rw [s2.len, Nat.zero_mul]
      have hn0 : news = #[] := by simpa [hx0] using n1
      subst hn0
      have hr := run_append_room' (P := P) (t := t) (t2 := t2) (ty := ty) (sz := sz) (base := base) (sLen := k) (sCap := k) s2.lenOf n4 (Nat.le_refl _)
      refine ⟨.slice base k k, w, g, ?_, .refl g, ?_, hp.sim⟩
      · simp only [execOp, ho, resolve, invoke, builtin, ht, Sem.run_bind, Sem.run_pure, Result.andThen_ok, List.map_toArray, List.map_cons, List.map_nil, he, hr]
        cases base <;> simp [storeCells]
      · rw [AO.app_void hl hx0, Nat.add_zero, ← he]
        exact hdr g _ hv
    · obtain ⟨cap, hc, hr⟩ := run_append_grow' (P := P) (t := t) (t2 := t2) (ty := ty) (sz := sz) (base := base) (sLen := k) (sCap := k) s2.lenOf n4 o4 (by omega) h63 hby
      have hh : (w.drew.alloc (.cells (old ++ news ++ Builtin.zeroCells z.cells (cap - (k + m))) e)).heap = w.heap.push (.cells (old ++ news ++ Builtin.zeroCells z.cells (cap - (k + m))) e) := rfl
      obtain ⟨hn, hsim⟩ := hp.sim.newSeal (w' := w.drew.alloc (.cells (old ++ news ++ Builtin.zeroCells z.cells (cap - (k + m))) e)) ⟨rfl, rfl, rfl⟩ hh
      have hle := g.le_seal' hn (.cells (old ++ news ++ Builtin.zeroCells z.cells (cap - (k + m))) e)
      refine ⟨.slice (some ⟨w.heap.size, 0, none⟩) (k + m) cap, _, _, ?_, hle, ?_, hsim⟩
      · simp only [execOp, ho, resolve, invoke, builtin, ht, Sem.run_bind, Sem.run_pure, Result.andThen_ok, List.map_toArray, List.map_cons, List.map_nil, he, hr]
      · refine rep_sealAV (sz := sz) (Gh.seal'_self _ _ _) ((o2.append o1 n2 n1 hl _).mono hle) (by rw [AO.len_app hl, s1.len, s2.len, Nat.add_mul]) (fun bs hbs => ?_) hc
        cases xd with
        | byt b => exact hsz b rfl
        | cel b => cases xs <;> simp [AO.app] at hbs
        | mpo es => simp [AO.app] at hbs
theorem awl_append_0 {t t2 e sz bytes : Nat} {z : Value} [hT : SliceT P t e sz bytes z] [h2 : NotIntT P t2] {s x : Operand} {av bv : AV} {m : Nat} {xs : AO} (hdn : Nat.blt d n = true)
    (hs : reval R s = av) (hx : reval R x = bv) (hdx : ∀ g v, Rep g av v → ∃ base, v = .slice base 0 0) (hb : SrcA H bv m sz xs) (hm : ∀ es, xs ≠ .mpo es)
    (h63 : m ≤ 9223372036854775807) (hby : m * bytes ≤ 140737488355328) (hk : ∀ o', H o' = none → AWL P n ops rest K ((d, .vw o' sz 0 m) :: R) (H.set o' xs)) :
    AWL P n ops (⟨some d, .call { callee := .builtin .append, args := #[s, x], argTypes := #[t, t2] }, ty, pos, af, none⟩ :: rest) K R H :=
  awl_step rfl rfl hdn fun g a w hp => by
    have hv := rv hp hs
    have hu := rv hp hx
    obtain ⟨base, he⟩ := hdx g _ hv
    have s2 := hb P g w _ hp.sim hu
    obtain ⟨news, n1, n2, n3, n4⟩ := s2.cells
    obtain ⟨o', ho', hl'⟩ := hp.sim.fresh
    rcases Nat.eq_zero_or_pos m with h0 | h0
    · subst h0
      have hx0 : xs.len = 0 := by rw [s2.len, Nat.zero_mul]
      have hn0 : news = #[] := by simpa [hx0] using n1
      subst hn0
      have hr := run_append_room' (P := P) (t := t) (t2 := t2) (ty := ty) (sz := sz) (base := base) (sLen := 0) (sCap := 0) s2.lenOf n4 (Nat.le_refl _)
      refine ⟨.slice base 0 0, w, g, .vw o' sz 0 0, _, ?_, .refl g, ?_, hp.sim.void hl' (AO.void_of_len hm hx0), hk o' ho'⟩
      · simp only [execOp, resolve, invoke, builtin, Sem.run_bind, Sem.run_pure, Result.andThen_ok, List.map_toArray, List.map_cons, List.map_nil, he, hr]
        cases base <;> simp [storeCells]
      · simp only [Rep]; exact .inr ⟨trivial, base, rfl⟩
    · have hold : ∀ w', w'.heap = w.heap → (Builtin.firstCells sz 0 (.slice base 0 0)).run P w' = .ok #[] w' := fun w' _ => by cases base <;> simp [Builtin.firstCells, loadCells, loadCellsFrom]
      obtain ⟨cap, hc, hr⟩ := run_append_grow' (P := P) (t := t) (t2 := t2) (ty := ty) (sz := sz) (base := base) (sLen := 0) (sCap := 0) s2.lenOf n4 hold (by omega) (by omega) (by rw [Nat.zero_add]; exact hby)
      rw [Nat.zero_add] at hc hr
      generalize hc3 : (#[] ++ news ++ Builtin.zeroCells z.cells (cap - m) : Array Value) = c3 at hr
      have hn2 : RepC g xs c3 0 := hc3 ▸ n2.padded _
      have hcs : c3.size = cap * sz := by
        subst hc3
        simp only [Array.size_append, List.size_toArray, List.length_nil, Nat.zero_add, size_zeroCells, hT.c, n1, s2.len, ← Nat.add_mul]
        congr 1
        omega
      refine ⟨.slice (some ⟨w.heap.size, 0, none⟩) m cap, _, _, .vw o' sz 0 m, _, ?_, g.le_at hl' ⟨w.heap.size, 0, c3.size⟩, ?_, hp.sim.new (w' := w.drew.alloc (.cells c3 e)) ⟨rfl, rfl, rfl⟩ rfl (unfrozen00 c3) hl' hn2, hk o' ho'⟩
      · simp only [execOp, resolve, invoke, builtin, Sem.run_bind, Sem.run_pure, Result.andThen_ok, List.map_toArray, List.map_cons, List.map_nil, he, hr]
      · simp only [Rep]
        exact .inl ⟨⟨w.heap.size, 0, c3.size⟩, cap, Gh.at_self _ _ _, rfl, hc, by simp; omega⟩
theorem AO.at_left {g : Gh} {x y : AO} (hl : x.like y) {i : Nat} {v : Value} (h : x.at? g i v) : (x.app y).at? g i v := by
  cases x with
  | byt a =>
    cases y with
    | byt b => obtain ⟨z, h1, h2⟩ := h; exact ⟨z, by rw [List.getElem?_append_left (List.getElem?_eq_some_iff.1 h1).1]; exact h1, h2⟩
    | _ => exact hl.elim
  | cel a =>
    cases y with
    | cel b => obtain ⟨z, h1, h2⟩ := h; exact ⟨z, by rw [List.getElem?_append_left (List.getElem?_eq_some_iff.1 h1).1]; exact h1, h2⟩
    | _ => exact hl.elim
  | mpo es => exact h.elim
theorem AO.at_right {g : Gh} {x y : AO} (hl : x.like y) {i : Nat} {v : Value} (hi : x.len ≤ i) (h : y.at? g (i - x.len) v) : (x.app y).at? g i v := by
  cases x with
  | byt a =>
    cases y with
    | byt b => obtain ⟨z, h1, h2⟩ := h; exact ⟨z, by rw [List.getElem?_append_right hi]; exact h1, h2⟩
    | _ => exact hl.elim
  | cel a =>
    cases y with
    | cel b => obtain ⟨z, h1, h2⟩ := h; exact ⟨z, by rw [List.getElem?_append_right hi]; exact h1, h2⟩
    | _ => exact hl.elim
  | mpo es => cases y <;> exact hl.elim
theorem RepC.grown {g : Gh} {x y : AO} {c c' : Array Value} {k : Nat} {news : List Value} (hx : RepC g x c k) (hy : RepC g y news.toArray 0) (hn : news.length = y.len) (hl : x.like y) (hsz : c'.size = c.size)
    (hfit : k + x.len + y.len ≤ c.size) (hold : ∀ j, j < k + x.len → c'[j]? = c[j]?) (hnew : ∀ j, j < news.length → c'[k + x.len + j]? = news[j]?) : RepC g (x.app y) c' k := by
  have hmx : ∀ es, x ≠ .mpo es := fun es e => by subst e; exact hx
  have hmy : ∀ es, y ≠ .mpo es := fun es e => by subst e; exact hy
  have hma : ∀ es, x.app y ≠ .mpo es := fun es e => by cases x <;> cases y <;> simp_all [AO.app, AO.like]
  rw [repC_iff hma]
  rw [repC_iff hmx] at hx
  rw [repC_iff hmy] at hy
  rw [AO.len_app hl]
  refine ⟨by omega, fun i hi => ?_⟩
  by_cases h : i < x.len
  · obtain ⟨v, hv, ha⟩ := hx.2 i h
    exact ⟨v, by rw [hold _ (by omega)]; exact hv, AO.at_left hl ha⟩
  · obtain ⟨v, hv, ha⟩ := hy.2 (i - x.len) (by omega)
    refine ⟨v, ?_, ?_⟩
    · have := hnew (i - x.len) (by omega)
      rw [show k + x.len + (i - x.len) = k + i from by omega] at this
      rw [this]
      simpa using hv
    · exact AO.at_right hl (by omega) ha
theorem AO.like_drop {x y : AO} (h : x.like y) (k : Nat) : (x.drop k).like y := by cases x <;> cases y <;> simp_all [AO.like, AO.drop]
theorem AO.len_drop {x : AO} (hm : ∀ es, x ≠ .mpo es) (k : Nat) : (x.drop k).len = x.len - k := by
  cases x with
  | mpo es => exact absurd rfl (hm es)
  | _ => simp [AO.drop, AO.len]
theorem AO.seg_all {x : AO} {k m : Nat} (hm : ∀ es, x ≠ .mpo es) (h : k + m = x.len) : x.seg k m = x.drop k := by
  cases x with
  | mpo es => exact absurd rfl (hm es)
  | byt bs => simp only [AO.seg, AO.drop, AO.len] at *; rw [List.take_of_length_le (by simp; omega)]
  | cel bs => simp only [AO.seg, AO.drop, AO.len] at *; rw [List.take_of_length_le (by simp; omega)]
theorem awl_append_vw {t t2 e sz bytes : Nat} {z : Value} [hT : SliceT P t e sz bytes z] [h2 : NotIntT P t2] {s x : Operand} {bv : AV} {ob off k m : Nat} {xd xs : AO} (hdn : Nat.blt d n = true)
    (hs : reval R s = .vw ob sz off k) (hx : reval R x = bv) (hH : H ob = some xd) (hmd : ∀ es, xd ≠ .mpo es) (hfull : off + k * sz = xd.len) (hb : SrcA H bv m sz xs) (hl : xd.like xs)
    (h63 : k + m ≤ 9223372036854775807) (hby : (k + m) * bytes ≤ 140737488355328)
    (hk : ∀ o', H o' = none → AWL P n ops rest K ((d, .vw o' sz 0 (k + m)) :: R) ((H.erase ob).set o' ((xd.drop off).app xs))) :
    AWL P n ops (⟨some d, .call { callee := .builtin .append, args := #[s, x], argTypes := #[t, t2] }, ty, pos, af, none⟩ :: rest) K R H :=
  awl_step rfl rfl hdn fun g a w hp => by
    have hv := rv hp hs
    have hu := rv hp hx
    have s1 := srcA_vw H ob sz off k xd hH hmd (by omega) P g w _ hp.sim hv
    rw [AO.seg_all hmd hfull] at s1
    have s2 := hb P g w _ hp.sim hu
    obtain ⟨old, o1, o2, o3, o4⟩ := s1.cells
    obtain ⟨news, n1, n2, n3, n4⟩ := s2.cells
    obtain ⟨o', ho', hl'⟩ := hp.sim.fresh
    have hne : o' ≠ ob := fun e => by rw [e, hH] at ho'; cases ho'
    have he' : (H.erase ob) o' = none := by simp [AHeap.erase, ho']
    have hmx : ∀ es, xs ≠ .mpo es := fun es e => by subst e; cases xd <;> exact hl
    have hmdd : ∀ es, xd.drop off ≠ .mpo es := fun es e => by cases xd <;> simp_all [AO.drop]
    have hsimE := hp.sim.erase ob
    have hgrown : ∀ (base : Option Addr) (cap0 : Nat), a.eval s = .slice base k cap0 → cap0 < k + m →
        ∃ v w' g' y H', (execOp a.eval ⟨some d, .call { callee := .builtin .append, args := #[s, x], argTypes := #[t, t2] }, ty, pos, af, none⟩).run P w = .ok (.value v) w' ∧ g.le g' ∧ Rep g' y v ∧ Sim g' H' w' ∧ AWL P n ops rest K ((d, y) :: R) H' := by
      intro base cap0 he hcap
      rw [he] at o4
      obtain ⟨cap, hc, hr⟩ := run_append_grow' (P := P) (t := t) (t2 := t2) (ty := ty) (sz := sz) (base := base) (sLen := k) (sCap := cap0) s2.lenOf n4 o4 hcap h63 hby
      generalize hc3 : (old ++ news ++ Builtin.zeroCells z.cells (cap - (k + m)) : Array Value) = c3 at hr
      have hcs : c3.size = cap * sz := by
        subst hc3
        simp only [Array.size_append, size_zeroCells, hT.c, o1, n1, s1.len, s2.len, ← Nat.add_mul]
        congr 1
        omega
      have hrep : RepC g ((xd.drop off).app xs) c3 0 := hc3 ▸ o2.append o1 n2 n1 (AO.like_drop hl off) _
      refine ⟨.slice (some ⟨w.heap.size, 0, none⟩) (k + m) cap, _, _, .vw o' sz 0 (k + m), _, ?_, g.le_at hl' ⟨w.heap.size, 0, c3.size⟩, ?_, hsimE.new (w' := w.drew.alloc (.cells c3 e)) ⟨rfl, rfl, rfl⟩ rfl (unfrozen00 c3) hl' hrep, hk o' ho'⟩
      · simp only [execOp, resolve, invoke, builtin, Sem.run_bind, Sem.run_pure, Result.andThen_ok, List.map_toArray, List.map_cons, List.map_nil, he, hr]
      · simp only [Rep]
        exact .inl ⟨⟨w.heap.size, 0, c3.size⟩, cap, Gh.at_self _ _ _, rfl, hc, by simp; omega⟩
    have hv' := hv
    simp only [Rep] at hv'
    rcases hv' with ⟨l, cap0, hloc, he, hkc, hfit⟩ | ⟨hk0, base, he⟩
    · by_cases hroom : k + m ≤ cap0
      · obtain ⟨c, e1, fz, h1, h2', h3, h4⟩ := row_of hp.sim hH hmd hloc
        have hcap : (k + m) * sz ≤ cap0 * sz := Nat.mul_le_mul_right _ hroom
        rw [Nat.add_mul] at hcap
        have hr := run_append_room' (P := P) (t := t) (t2 := t2) (ty := ty) (sz := sz) (base := some ⟨l.blk, l.base + off, none⟩) (sLen := k) (sCap := cap0) s2.lenOf n4 hroom
        have hnl : news.toList.length = m * sz := by rw [Array.length_toList, n1, s2.len]
        obtain ⟨c', q1, q2, q3, q4⟩ := run_storeCells_row (P := P) news.toList 0 (w := w) (b := l.blk) (off := l.base + off + k * sz) h1 h3 (by omega) (fun v hv => n3 v (by simpa using hv))
        simp only [Nat.add_zero] at q3 q4
        have hfree : ∀ p y l', (H.erase ob) p = some y → g.loc p = some l' → l'.blk ≠ l.blk := fun p y l' hpy hl'' e => by
          simp only [AHeap.erase] at hpy
          split at hpy
          · cases hpy
          · rename_i hpo
            exact hpo (hp.sim.inj _ _ _ _ _ _ hpy hH hl'' hloc e)
        have hrep : RepC g ((xd.drop off).app xs) c' (l.base + off) := by
          have hdl : (xd.drop off).len = k * sz := by rw [AO.len_drop hmd]; omega
          refine RepC.grown (x := xd.drop off) (c := c) (news := news.toList) (h4.drop (by omega)) (by simpa using n2) (by rw [hnl, s2.len]) (AO.like_drop hl off) q2 (by rw [hdl, s2.len]; omega) (fun j hj => ?_) (fun j hj => ?_)
          · rw [hdl] at hj; exact q3 j (.inl (by omega))
          · rw [hdl]; exact q4 j hj
        have hplace := hsimE.place (w' := w.setRow l.blk c') (same_setRow _ _ _) (hp.sim.apart _ _ _ hH hloc) hfree (fun k' hk' => setRow_other w _ _ _ hk') (heap_setRow h1) (fun j hj => h3 j (by omega)) hl' hrep
        refine ⟨.slice (some ⟨l.blk, l.base + off, none⟩) (k + m) cap0, _, _, .vw o' sz 0 (k + m), _, ?_, g.le_at hl' ⟨l.blk, l.base + off, c'.size⟩, ?_, hplace, hk o' ho'⟩
        · simp only [add_lit'] at hr
          simp only [execOp, resolve, invoke, builtin, Sem.run_bind, Sem.run_pure, Result.andThen_ok, List.map_toArray, List.map_cons, List.map_nil, he, hr, q1]
        · simp only [Rep]
          exact .inl ⟨⟨l.blk, l.base + off, c'.size⟩, cap0, Gh.at_self _ _ _, by simp, hroom, by simp; omega⟩
      · exact hgrown _ _ he (by omega)
    · subst hk0
      rcases Nat.eq_zero_or_pos m with h0 | h0
      · subst h0
        have hx0 : xs.len = 0 := by rw [s2.len, Nat.zero_mul]
        have hn0 : news = #[] := by simpa [hx0] using n1
        subst hn0
        have hr := run_append_room' (P := P) (t := t) (t2 := t2) (ty := ty) (sz := sz) (base := base) (sLen := 0) (sCap := 0) s2.lenOf n4 (Nat.le_refl _)
        have hvoid : ((xd.drop off).app xs).len = 0 := by rw [AO.len_app (AO.like_drop hl off), hx0, AO.len_drop hmd]; omega
        refine ⟨.slice base 0 0, w, g, .vw o' sz 0 0, _, ?_, .refl g, ?_, hsimE.void hl' (AO.void_of_len (fun es e => ?_) hvoid), hk o' ho'⟩
        · simp only [execOp, resolve, invoke, builtin, Sem.run_bind, Sem.run_pure, Result.andThen_ok, List.map_toArray, List.map_cons, List.map_nil, he, hr]
          cases base <;> simp [storeCells]
        · simp only [Rep]; exact .inr ⟨trivial, base, rfl⟩
        · cases xd <;> cases xs <;> simp_all [AO.app, AO.drop, AO.like]
      · exact hgrown base 0 he (by omega)
end
end
end Go.Am
