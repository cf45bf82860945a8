/-
  The abstract machine: values that carry their contents, objects that may be written, and the relation to the model's worlds. No program in sight: one text for every seat.
-/
import Derived.Tactics
import Derived.Laws.Entries
import Derived.Laws.Rows
import Derived.Laws.AppendOwn
set_option linter.unusedSimpArgs false
set_option linter.unusedVariables false
namespace Go.Am
open Go
class NatOf (z : Int) (n : outParam Nat) : Prop where
  h : z = (n : Int)
instance (n : Nat) : NatOf ((n : Nat) : Int) n := ⟨rfl⟩
instance (n : Nat) : NatOf (no_index (OfNat.ofNat n : Int)) (OfNat.ofNat n : Nat) := ⟨rfl⟩
inductive AV where
  | unk
  | raw (v : Value)
  | emp
  | bys (bs : List UInt8)
  | sls (n : Nat) (xs : List AV)
  | pby (bs : List UInt8) (i : Nat)
  | pce (xs : List AV) (i : Nat)
  | ptr (o off : Nat)
  | vw (o sz off len : Nat)
  | mp (o : Nat)
  | agg (xs : List AV)
  | tup (xs : List AV)
  | fnc (fn : Fn) (first caps : List AV)
  | ifc (t : TypeId) (x : AV)
  | bysx (bs : List UInt8)
  | slsx (n : Nat) (xs : List AV)
  | str (bs : List UInt8)
instance : Inhabited AV := ⟨.unk⟩
inductive AO where
  | byt (bs : List UInt8)
  | cel (xs : List AV)
  | mpo (es : List (AV × AV))
structure Loc where
  blk : Nat
  base : Nat
  size : Nat
structure Gh where
  w0 : World
  h : Nat -> Option Obj
  loc : Nat -> Option Loc
structure Gh.le (g g' : Gh) : Prop where
  w0 : g'.w0 = g.w0
  h : ∀ b o, g.h b = some o -> g'.h b = some o
  loc : ∀ o l, g.loc o = some l -> g'.loc o = some l
theorem Gh.le.refl (g : Gh) : g.le g := ⟨rfl, fun _ _ h => h, fun _ _ h => h⟩
theorem Gh.le.trans {a b c : Gh} (h : a.le b) (k : b.le c) : a.le c :=
  ⟨k.w0.trans h.w0, fun _ _ e => k.h _ _ (h.h _ _ e), fun _ _ e => k.loc _ _ (h.loc _ _ e)⟩
def ByAt (bs : List UInt8) (c : Array Value) (k : Nat) : Prop := ∀ i x, bs[i]? = some x -> c[k + i]? = some (.int .u8 (x.toNat : Int))
def one (v : Value) : Prop := v.oneCell' = true
mutual
def Rep (g : Gh) : AV -> Value -> Prop
  | .unk, _ => True
  | .raw u, v => v = u
  | .emp, v => ∃ a, v = .slice a 0 0
  | .bys bs, v => (bs = [] /\ ∃ a cap, v = .slice a 0 cap) \/ ∃ b off cap c e fz, v = .slice (some ⟨b, off, none⟩) bs.length cap /\ bs.length <= cap /\ g.h b = some (.cells c e fz) /\ ByAt bs c off
  | .sls n xs, v => (n = 0 /\ xs = [] /\ ∃ a cap, v = .slice a 0 cap) \/ ∃ b off cap c e fz, v = .slice (some ⟨b, off, none⟩) n cap /\ n <= cap /\ g.h b = some (.cells c e fz) /\ RepAt g xs c off
  | .pby bs i, v => ∃ b off c e fz, v = .pointer (some ⟨b, off + i, none⟩) /\ g.h b = some (.cells c e fz) /\ ByAt bs c off
  | .pce xs i, v => ∃ b off c e fz, v = .pointer (some ⟨b, off + i, none⟩) /\ g.h b = some (.cells c e fz) /\ RepAt g xs c off
  | .ptr o off, v => ∃ l, g.loc o = some l /\ v = .pointer (some ⟨l.blk, l.base + off, none⟩)
  | .vw o sz off len, v => (∃ l cap, g.loc o = some l /\ v = .slice (some ⟨l.blk, l.base + off, none⟩) len cap /\ len <= cap /\ l.base + off + cap * sz <= l.size) \/ (len = 0 /\ ∃ a, v = .slice a 0 0)
  | .mp o, v => ∃ l, g.loc o = some l /\ v = .map (some l.blk)
  | .agg xs, v => ∃ a : Array Value, v = .agg a /\ RepL g xs a.toList
  | .tup xs, v => ∃ a : Array Value, v = .tuple a /\ RepL g xs a.toList
  | .fnc fn fs cs, v => ∃ a b : Array Value, v = .func fn a b /\ RepL g fs a.toList /\ RepL g cs b.toList
  | .ifc t x, v => ∃ u, v = .iface t u /\ Rep g x u
  | .bysx bs, v => (bs = [] /\ ∃ a, v = .slice a 0 0) \/ ∃ b off c e fz, v = .slice (some ⟨b, off, none⟩) bs.length bs.length /\ g.h b = some (.cells c e fz) /\ ByAt bs c off
  | .str bs, v => v = .string ⟨bs.toArray⟩
  | .slsx n xs, v => (n = 0 /\ xs = [] /\ ∃ a, v = .slice a 0 0) \/ ∃ b off c e fz, v = .slice (some ⟨b, off, none⟩) n n /\ g.h b = some (.cells c e fz) /\ RepAt g xs c off
def RepL (g : Gh) : List AV -> List Value -> Prop
  | [], l => l = []
  | x :: xs, l => ∃ u us, l = u :: us /\ Rep g x u /\ RepL g xs us
def RepAt (g : Gh) : List AV -> Array Value -> Nat -> Prop
  | [], _, _ => True
  | x :: xs, c, k => (∃ u, c[k]? = some u /\ one u /\ Rep g x u) /\ RepAt g xs c (k + 1)
end
mutual
theorem Rep.mono {g g' : Gh} (hg : g.le g') : ∀ (x : AV) (v : Value), Rep g x v -> Rep g' x v
  | .unk, _, _ => trivial
  | .raw _, _, h => h
  | .emp, _, h => h
  | .bys bs, v, h => by
    simp only [Rep] at h ⊢; rcases h with h | ⟨b, off, cap, c, e, fz, h1, h2, h3, h4⟩
    · exact .inl h
    · exact .inr ⟨b, off, cap, c, e, fz, h1, h2, hg.h _ _ h3, h4⟩
  | .sls n xs, v, h => by
    simp only [Rep] at h ⊢; rcases h with h | ⟨b, off, cap, c, e, fz, h1, h2, h3, h4⟩
    · exact .inl h
    · exact .inr ⟨b, off, cap, c, e, fz, h1, h2, hg.h _ _ h3, RepAt.mono hg xs _ _ h4⟩
  | .pby bs i, v, h => by
    simp only [Rep] at h ⊢; obtain ⟨b, off, c, e, fz, h1, h3, h4⟩ := h; exact ⟨b, off, c, e, fz, h1, hg.h _ _ h3, h4⟩
  | .pce xs i, v, h => by
    simp only [Rep] at h ⊢; obtain ⟨b, off, c, e, fz, h1, h3, h4⟩ := h; exact ⟨b, off, c, e, fz, h1, hg.h _ _ h3, RepAt.mono hg xs _ _ h4⟩
  | .ptr o off, v, h => by
    simp only [Rep] at h ⊢; obtain ⟨l, h1, h2⟩ := h; exact ⟨l, hg.loc _ _ h1, h2⟩
  | .vw o sz off len, v, h => by
    simp only [Rep] at h ⊢; rcases h with ⟨l, cap, h1, h2⟩ | h
    · exact .inl ⟨l, cap, hg.loc _ _ h1, h2⟩
    · exact .inr h
  | .mp o, v, h => by
    simp only [Rep] at h ⊢; obtain ⟨l, h1, h2⟩ := h; exact ⟨l, hg.loc _ _ h1, h2⟩
  | .agg xs, v, h => by
    simp only [Rep] at h ⊢; obtain ⟨a, h1, h2⟩ := h; exact ⟨a, h1, RepL.mono hg xs _ h2⟩
  | .tup xs, v, h => by
    simp only [Rep] at h ⊢; obtain ⟨a, h1, h2⟩ := h; exact ⟨a, h1, RepL.mono hg xs _ h2⟩
  | .fnc fn fs cs, v, h => by
    simp only [Rep] at h ⊢; obtain ⟨a, b, h1, h2, h3⟩ := h; exact ⟨a, b, h1, RepL.mono hg fs _ h2, RepL.mono hg cs _ h3⟩
  | .ifc t x, v, h => by
    simp only [Rep] at h ⊢; obtain ⟨u, h1, h2⟩ := h; exact ⟨u, h1, Rep.mono hg x _ h2⟩
  | .bysx bs, v, h => by
    simp only [Rep] at h ⊢; rcases h with h | ⟨b, off, c, e, fz, h1, h3, h4⟩
    · exact .inl h
    · exact .inr ⟨b, off, c, e, fz, h1, hg.h _ _ h3, h4⟩
  | .str _, _, h => h
  | .slsx n xs, v, h => by
    simp only [Rep] at h ⊢; rcases h with h | ⟨b, off, c, e, fz, h1, h3, h4⟩
    · exact .inl h
    · exact .inr ⟨b, off, c, e, fz, h1, hg.h _ _ h3, RepAt.mono hg xs _ _ h4⟩
theorem RepL.mono {g g' : Gh} (hg : g.le g') : ∀ (xs : List AV) (l : List Value), RepL g xs l -> RepL g' xs l
  | [], _, h => by simpa only [RepL] using h
  | x :: xs, l, h => by
    simp only [RepL] at h ⊢; obtain ⟨u, us, h1, h2, h3⟩ := h; exact ⟨u, us, h1, Rep.mono hg x _ h2, RepL.mono hg xs _ h3⟩
theorem RepAt.mono {g g' : Gh} (hg : g.le g') : ∀ (xs : List AV) (c : Array Value) (k : Nat), RepAt g xs c k -> RepAt g' xs c k
  | [], _, _, _ => by simp only [RepAt]
  | x :: xs, c, k, h => by
    simp only [RepAt] at h ⊢; obtain ⟨⟨u, h1, h2, h3⟩, h4⟩ := h; exact ⟨⟨u, h1, h2, Rep.mono hg x _ h3⟩, RepAt.mono hg xs _ _ h4⟩
end
theorem i6 {g : Gh} : ∀ (xs : List AV) (c : Array Value) (k : Nat), RepAt g xs c k ↔ ∀ i x, xs[i]? = some x -> ∃ u, c[k + i]? = some u /\ one u /\ Rep g x u
  | [], c, k => by simp [RepAt]
  | x :: xs, c, k => by
    simp only [RepAt, i6 xs c (k + 1)]; constructor
    · rintro ⟨h0, h⟩ i y hi
      cases i with
      | zero => simp at hi; subst hi; simpa using h0
      | succ i => simp at hi; have := h i y hi; rwa [Nat.add_assoc, Nat.add_comm 1 i] at this
    · intro h
      refine ⟨by simpa using h 0 x rfl, fun i y hi => ?_⟩
      have := h (i + 1) y (by simpa using hi)
      rwa [Nat.add_comm i 1, <- Nat.add_assoc] at this
theorem pf {g : Gh} : ∀ (xs : List AV) (l : List Value), RepL g xs l -> l.length = xs.length
  | [], l, h => by simp only [RepL] at h; simp [h]
  | x :: xs, l, h => by
    simp only [RepL] at h; obtain ⟨u, us, rfl, _, h3⟩ := h; simp [pf xs us h3]
theorem ny {g : Gh} : ∀ (xs : List AV) (l : List Value), RepL g xs l ↔ l.length = xs.length /\ ∀ (i : Nat) (x : AV), xs[i]? = some x -> ∃ u, l[i]? = some u /\ Rep g x u
  | [], l => by simp [RepL]
  | x :: xs, l => by
    simp only [RepL]; constructor
    · rintro ⟨u, us, rfl, h1, h2⟩
      obtain ⟨hl, h⟩ := (ny xs us).1 h2; refine ⟨by simp [hl], fun i y hi => ?_⟩
      cases i with
      | zero => simp at hi; subst hi; exact ⟨u, by simp, h1⟩
      | succ i => simp at hi; simpa using h i y hi
    · rintro ⟨hl, h⟩
      cases l with
      | nil => simp at hl
      | cons u us =>
        obtain ⟨u', hu, hr⟩ := h 0 x rfl; simp at hu; subst hu
        exact ⟨u, us, rfl, hr, (ny xs us).2 ⟨by simpa using hl, fun i y hi => by simpa using h (i + 1) y (by simpa using hi)⟩⟩
def AHeap := Nat -> Option AO
def AHeap.set (H : AHeap) (o : Nat) (x : AO) : AHeap := fun p => if p = o then some x else H p
def AHeap.erase (H : AHeap) (o : Nat) : AHeap := fun p => if p = o then none else H p
def AHeap.empty : AHeap := fun _ => none
def Unfrozen (c : Array Value) (fz : Nat × Nat) : Prop := ∀ i, i < c.size -> ¬ (fz.1 <= i /\ i < fz.2)
def RepEs (g : Gh) : List (AV × AV) -> List MapEntry -> Prop
  | [], l => l = []
  | (k, v) :: es, l => ∃ m ms, l = m :: ms /\ Rep g k m.key /\ Rep g v m.val /\ RepEs g es ms
def RepC (g : Gh) : AO -> Array Value -> Nat -> Prop
  | .byt bs, c, k => k + bs.length <= c.size /\ ByAt bs c k
  | .cel xs, c, k => k + xs.length <= c.size /\ RepAt g xs c k
  | .mpo _, _, _ => False
def AO.len : AO -> Nat
  | .byt bs => bs.length
  | .cel xs => xs.length
  | .mpo _ => 0
def AO.app : AO -> AO -> AO
  | .byt a, .byt b => .byt (a ++ b)
  | .cel a, .cel b => .cel (a ++ b)
  | x, _ => x
def AO.drop (k : Nat) : AO -> AO
  | .byt a => .byt (a.drop k)
  | .cel a => .cel (a.drop k)
  | x => x
def AO.seg (k m : Nat) : AO -> AO
  | .byt a => .byt ((a.drop k).take m)
  | .cel a => .cel ((a.drop k).take m)
  | x => x
def AO.like : AO -> AO -> Prop
  | .byt _, .byt _ => True
  | .cel _, .cel _ => True
  | _, _ => False
def AO.void : AO -> Prop
  | .byt bs => bs = []
  | .cel xs => xs = []
  | .mpo _ => False
def itrO (mb since last : Nat) (seen : List Nat) : AO := .mpo ((.emp, .vw mb 0 since last) :: seen.map fun b => (.emp, .ptr b 0))
def mpxO (mb clock : Nat) (es : List (AV × AV)) (born : List Nat) : AO := .mpo ((.emp, .vw mb 1 clock 0) :: (.emp, .tup (born.map fun b => .ptr b 0)) :: es)
def OddO (g : Gh) (x : AO) (l : Loc) (ob : Obj) : Prop :=
  (∃ mb since last seen, x = itrO mb since last seen.toList /\ ob = .mapIter (some mb) since seen last /\ l.base = 0) \/
  (∃ es es' clock, x = mpxO l.blk clock es (es'.toList.map (·.born)) /\ ob = .map es' clock /\ RepEs g es es'.toList /\ (∀ m ∈ es', m.born < clock) /\ (es'.toList.map (·.born)).Nodup)
def RepO (g : Gh) (heap : Array Obj) (o : Nat) (x : AO) : Prop :=
  (x.void /\ g.loc o = none) \/
  (∃ l c e fz, g.loc o = some l /\ heap[l.blk]? = some (.cells c e fz) /\ c.size = l.size /\ Unfrozen c fz /\ RepC g x c l.base) \/
  (∃ l es es' clock, x = .mpo es /\ g.loc o = some l /\ heap[l.blk]? = some (.map es' clock) /\ RepEs g es es'.toList /\ (∀ m ∈ es', m.born < clock) /\ (es'.toList.map (·.born)).Nodup /\ ∀ p ∈ es, p.1 ≠ .emp) \/
  (∃ l ob, g.loc o = some l /\ heap[l.blk]? = some ob /\ OddO g x l ob)
theorem RepEs.mono {g g' : Gh} (hg : g.le g') : ∀ (es : List (AV × AV)) (l : List MapEntry), RepEs g es l -> RepEs g' es l
  | [], _, h => h
  | (k, v) :: es, l, h => by
    obtain ⟨m, ms, h1, h2, h3, h4⟩ := h; exact ⟨m, ms, h1, Rep.mono hg _ _ h2, Rep.mono hg _ _ h3, RepEs.mono hg es ms h4⟩
theorem RepC.mono {g g' : Gh} (hg : g.le g') {x : AO} {c : Array Value} {k : Nat} (h : RepC g x c k) : RepC g' x c k := by
  cases x with
  | byt bs => exact h
  | cel xs => exact ⟨h.1, RepAt.mono hg _ _ _ h.2⟩
  | mpo es => exact h
theorem aa3 {bs : List UInt8} {c : Array Value} {k : Nat} (h : ByAt bs c k) (j : Nat) : ByAt (bs.drop j) c (k + j) := fun i x hi => by
  rw [List.getElem?_drop] at hi; have := h (j + i) x hi
  rwa [<- Nat.add_assoc] at this
theorem af7 {bs : List UInt8} {c : Array Value} {k : Nat} (h : ByAt bs c k) (j : Nat) : ByAt (bs.take j) c k := fun i x hi => by
  rw [List.getElem?_take] at hi; split at hi
  · exact h i x hi
  · cases hi
theorem qv {g : Gh} {xs : List AV} {c : Array Value} {k : Nat} (h : RepAt g xs c k) (j : Nat) : RepAt g (xs.drop j) c (k + j) := by
  rw [i6] at h ⊢; intro i x hi; rw [List.getElem?_drop] at hi; have := h (j + i) x hi
  rwa [<- Nat.add_assoc] at this
theorem tx {g : Gh} {xs : List AV} {c : Array Value} {k : Nat} (h : RepAt g xs c k) (j : Nat) : RepAt g (xs.take j) c k := by
  rw [i6] at h ⊢; intro i x hi; rw [List.getElem?_take] at hi; split at hi
  · exact h i x hi
  · cases hi
theorem RepC.drop {g : Gh} {x : AO} {c : Array Value} {k : Nat} (h : RepC g x c k) {j : Nat} (hj : j <= x.len) : RepC g (x.drop j) c (k + j) := by
  cases x with
  | byt bs => simp only [AO.len] at hj; exact ⟨by have := h.1; simp; omega, aa3 h.2 j⟩
  | cel xs => simp only [AO.len] at hj; exact ⟨by have := h.1; simp; omega, qv h.2 j⟩
  | mpo es => exact h.elim
theorem RepC.seg {g : Gh} {x : AO} {c : Array Value} {k : Nat} (h : RepC g x c k) {j m : Nat} (hj : j + m <= x.len) : RepC g (x.seg j m) c (k + j) := by
  cases x with
  | byt bs => simp only [AO.len] at hj; exact ⟨by have := h.1; simp; omega, af7 (aa3 h.2 j) m⟩
  | cel xs => simp only [AO.len] at hj; exact ⟨by have := h.1; simp; omega, tx (qv h.2 j) m⟩
  | mpo es => exact h.elim
theorem RepC.len_le {g : Gh} {x : AO} {c : Array Value} {k : Nat} (h : RepC g x c k) : k + x.len <= c.size := by
  cases x with
  | byt bs => exact h.1
  | cel xs => exact h.1
  | mpo es => exact h.elim
def AO.at? (g : Gh) (x : AO) (i : Nat) (v : Value) : Prop :=
  match x with
  | .byt bs => ∃ b, bs[i]? = some b /\ v = .int .u8 (b.toNat : Int)
  | .cel xs => ∃ y, xs[i]? = some y /\ one v /\ Rep g y v
  | .mpo _ => False
theorem AO.at_one {g : Gh} {x : AO} {i : Nat} {v : Value} (h : x.at? g i v) : one v := by
  cases x with
  | byt bs => obtain ⟨b, _, rfl⟩ := h; rfl
  | cel xs => obtain ⟨y, _, h, _⟩ := h; exact h
  | mpo es => exact h.elim
theorem rx {g : Gh} {x : AO} {c : Array Value} {k : Nat} (hm : ∀ es, x ≠ .mpo es) : RepC g x c k ↔ k + x.len <= c.size /\ ∀ i, i < x.len -> ∃ v, c[k + i]? = some v /\ x.at? g i v := by
  cases x with
  | byt bs =>
    simp only [RepC, AO.len, AO.at?]; constructor
    · rintro ⟨h1, h2⟩
      exact ⟨h1, fun i hi => ⟨_, h2 i _ (List.getElem?_eq_getElem hi), _, List.getElem?_eq_getElem hi, rfl⟩⟩
    · rintro ⟨h1, h2⟩
      refine ⟨h1, fun i y hi => ?_⟩
      obtain ⟨v, hv, b, hb, rfl⟩ := h2 i (List.getElem?_eq_some_iff.1 hi).1; rw [hi] at hb; cases hb; exact hv
  | cel xs =>
    simp only [RepC, AO.len, AO.at?, i6]; constructor
    · rintro ⟨h1, h2⟩
      refine ⟨h1, fun i hi => ?_⟩
      obtain ⟨u, hu, h3, h4⟩ := h2 i _ (List.getElem?_eq_getElem hi); exact ⟨u, hu, _, List.getElem?_eq_getElem hi, h3, h4⟩
    · rintro ⟨h1, h2⟩
      refine ⟨h1, fun i y hi => ?_⟩
      obtain ⟨v, hv, b, hb, h3, h4⟩ := h2 i (List.getElem?_eq_some_iff.1 hi).1; rw [hi] at hb; cases hb; exact ⟨v, hv, h3, h4⟩
  | mpo es => exact absurd rfl (hm es)
structure Sim (g : Gh) (H : AHeap) (w : World) : Prop where
  os : w.os = g.w0.os
  tape : w.tape = g.w0.tape
  output : w.output = g.w0.output
  sealed : ∀ b o, g.h b = some o -> w.heap[b]? = some o
  objs : ∀ o x, H o = some x -> RepO g w.heap o x
  inj : ∀ o1 o2 x1 x2 l1 l2, H o1 = some x1 -> H o2 = some x2 -> g.loc o1 = some l1 -> g.loc o2 = some l2 -> l1.blk = l2.blk -> o1 = o2
  apart : ∀ o x l, H o = some x -> g.loc o = some l -> g.h l.blk = none
  fin : ∃ N, ∀ o, N <= o -> H o = none /\ g.loc o = none
def Gh.at (g : Gh) (o : Nat) (l : Loc) : Gh := { g with loc := fun p => if p = o then some l else g.loc p }
theorem Gh.le_at (g : Gh) {o : Nat} (ho : g.loc o = none) (l : Loc) : g.le (g.at o l) :=
  ⟨rfl, fun _ _ h => h, fun p l' h => by
    have hne : p ≠ o := fun e => by rw [e, ho] at h; cases h
    simpa [Gh.at, hne] using h⟩
def Gh.seal' (g : Gh) (b : Nat) (ob : Obj) : Gh := { g with h := fun p => if p = b then some ob else g.h p }
theorem Gh.le_seal' (g : Gh) {b : Nat} (hb : g.h b = none) (ob : Obj) : g.le (g.seal' b ob) :=
  ⟨rfl, fun p o h => by
    have hne : p ≠ b := fun e => by rw [e, hb] at h; cases h
    simpa [Gh.seal', hne] using h, fun _ _ h => h⟩
theorem Gh.seal'_self (g : Gh) (b : Nat) (ob : Obj) : (g.seal' b ob).h b = some ob := by simp [Gh.seal']
theorem Gh.at_self (g : Gh) (o : Nat) (l : Loc) : (g.at o l).loc o = some l := by simp [Gh.at]
structure Same (w w' : World) : Prop where
  os : w'.os = w.os
  tape : w'.tape = w.tape
  output : w'.output = w.output
theorem Same.refl (w : World) : Same w w := ⟨rfl, rfl, rfl⟩
theorem Same.trans {a b c : World} (h : Same a b) (k : Same b c) : Same a c := ⟨k.os.trans h.os, k.tape.trans h.tape, k.output.trans h.output⟩
theorem RepO.blk_lt {g : Gh} {heap : Array Obj} {o : Nat} {x : AO} (h : RepO g heap o x) {l : Loc} (hl : g.loc o = some l) : l.blk < heap.size := by
  rcases h with ⟨_, h⟩ | ⟨l', c, e, fz, h1, h2, _⟩ | ⟨l', es, es', ck, _, h1, h2, _⟩ | ⟨l', ob, h1, h2, _⟩
  · rw [h] at hl; cases hl
  · rw [h1] at hl; cases hl; exact (Array.getElem?_eq_some_iff.1 h2).1
  · rw [h1] at hl; cases hl; exact (Array.getElem?_eq_some_iff.1 h2).1
  · rw [h1] at hl; cases hl; exact (Array.getElem?_eq_some_iff.1 h2).1
theorem OddO.mono {g g' : Gh} (hg : g.le g') {x : AO} {b : Loc} {ob : Obj} (h : OddO g x b ob) : OddO g' x b ob := by
  rcases h with h | ⟨es, es', clock, h1, h2, h3, h4⟩
  · exact .inl h
  · exact .inr ⟨es, es', clock, h1, h2, h3.mono hg, h4⟩
theorem OddO.mp {g : Gh} {x : AO} {b : Loc} {ob : Obj} (h : OddO g x b ob) : ∃ k es, x = .mpo ((.emp, k) :: es) := by
  rcases h with ⟨_, _, _, _, h, _⟩ | ⟨_, _, _, h, _⟩
  · exact ⟨_, _, h⟩
  · exact ⟨_, _, h⟩
theorem RepO.move {g g' : Gh} {heap heap' : Array Obj} {o : Nat} {x : AO} (h : RepO g heap o x) (hg : g.le g') (hloc : g'.loc o = g.loc o)
    (hb : ∀ l, g.loc o = some l -> heap'[l.blk]? = heap[l.blk]?) : RepO g' heap' o x := by
  rcases h with ⟨h1, h2⟩ | ⟨l, c, e, fz, h1, h2, h3, h4, h5⟩ | ⟨l, es, es', ck, h0, h1, h2, h3, h4, h5⟩ | ⟨l, ob, h1, h2, h3⟩
  · exact .inl ⟨h1, hloc.trans h2⟩
  · exact .inr (.inl ⟨l, c, e, fz, hg.loc _ _ h1, (hb l h1).trans h2, h3, h4, h5.mono hg⟩)
  · exact .inr (.inr (.inl ⟨l, es, es', ck, h0, hg.loc _ _ h1, (hb l h1).trans h2, h3.mono hg, h4, h5⟩))
  · exact .inr (.inr (.inr ⟨l, ob, hg.loc _ _ h1, (hb l h1).trans h2, h3.mono hg⟩))
theorem Sim.same {g : Gh} {H : AHeap} {w w' : World} (h : Sim g H w) (hs : Same w w') (hh : w'.heap = w.heap) : Sim g H w' :=
  ⟨hs.os.trans h.os, hs.tape.trans h.tape, hs.output.trans h.output, fun b o hb => by rw [hh]; exact h.sealed b o hb, fun o x ho => by rw [hh]; exact h.objs o x ho, h.inj, h.apart, h.fin⟩
theorem Sim.fresh {g : Gh} {H : AHeap} {w : World} (h : Sim g H w) : ∃ o, H o = none /\ g.loc o = none :=
  let ⟨N, hN⟩ := h.fin; ⟨N, hN N (Nat.le_refl _)⟩
theorem Sim.new {g : Gh} {H : AHeap} {w w' : World} (h : Sim g H w) (hs : Same w w') {c : Array Value} {e : TypeId} {fz : Nat × Nat}
    (hh : w'.heap = w.heap.push (.cells c e fz)) (hu : Unfrozen c fz) {o : Nat} (ho : g.loc o = none) {x : AO} (hx : RepC g x c 0) :
    Sim (g.at o ⟨w.heap.size, 0, c.size⟩) (H.set o x) w' := by
  have hle := g.le_at ho ⟨w.heap.size, 0, c.size⟩; have hold : ∀ b, b < w.heap.size -> w'.heap[b]? = w.heap[b]? := fun b hb => by rw [hh, Array.getElem?_push, if_neg (by omega)]
  have hself : (g.at o ⟨w.heap.size, 0, c.size⟩).loc o = some ⟨w.heap.size, 0, c.size⟩ := by simp [Gh.at]
  have hother : ∀ p, p ≠ o -> (g.at o ⟨w.heap.size, 0, c.size⟩).loc p = g.loc p := fun p hp => by simp [Gh.at, hp]
  refine ⟨hs.os.trans h.os, hs.tape.trans h.tape, hs.output.trans h.output, ?_, ?_, ?_, ?_, ?_⟩
  · intro b ob hb
    have := h.sealed b ob hb; rw [hold b (Array.getElem?_eq_some_iff.1 this).1]; exact this
  · intro p y hp
    simp only [AHeap.set] at hp; by_cases hpo : p = o
    · subst hpo
      simp at hp; subst hp
      exact .inr (.inl ⟨_, c, e, fz, hself, by rw [hh]; simp, rfl, hu, hx.mono hle⟩)
    · rw [if_neg hpo] at hp
      have hr := h.objs p y hp; exact hr.move hle (hother p hpo) fun l hl => hold _ (hr.blk_lt hl)
  · intro o1 o2 x1 x2 l1 l2 h1 h2 k1 k2 hb
    simp only [AHeap.set] at h1 h2; by_cases e1 : o1 = o <;> by_cases e2 : o2 = o
    · rw [e1, e2]
    · subst e1; rw [hself] at k1; cases k1
      rw [if_neg e2] at h2; rw [hother _ e2] at k2; have := (h.objs _ _ h2).blk_lt k2; simp at hb; omega
    · subst e2; rw [hself] at k2; cases k2
      rw [if_neg e1] at h1; rw [hother _ e1] at k1; have := (h.objs _ _ h1).blk_lt k1; simp at hb; omega
    · rw [if_neg e1] at h1; rw [if_neg e2] at h2; rw [hother _ e1] at k1; rw [hother _ e2] at k2
      exact h.inj _ _ _ _ _ _ h1 h2 k1 k2 hb
  · intro p y l hp hl
    simp only [AHeap.set] at hp; by_cases hpo : p = o
    · subst hpo
      rw [hself] at hl; cases hl; show g.h w.heap.size = none
      cases hn : g.h w.heap.size with
      | none => rfl
      | some ob => have := (Array.getElem?_eq_some_iff.1 (h.sealed _ _ hn)).1; omega
    · rw [if_neg hpo] at hp; rw [hother p hpo] at hl
      exact h.apart p y l hp hl
  · obtain ⟨N, hN⟩ := h.fin
    refine ⟨max N (o + 1), fun p hp => ?_⟩
    have hpo : p ≠ o := by omega
    have := hN p (by omega)
    exact ⟨by simp [AHeap.set, hpo, this.1], by rw [hother p hpo]; exact this.2⟩
theorem Sim.newSeal {g : Gh} {H : AHeap} {w w' : World} (h : Sim g H w) (hs : Same w w') {ob : Obj} (hh : w'.heap = w.heap.push ob) :
    g.h w.heap.size = none /\ Sim (g.seal' w.heap.size ob) H w' := by
  have hnone : g.h w.heap.size = none := by
    cases hn : g.h w.heap.size with
    | none => rfl
    | some ob => have := (Array.getElem?_eq_some_iff.1 (h.sealed _ _ hn)).1; omega
  have hold : ∀ b, b < w.heap.size -> w'.heap[b]? = w.heap[b]? := fun b hb => by rw [hh, Array.getElem?_push, if_neg (by omega)]
  have hle : g.le (g.seal' w.heap.size ob) := ⟨rfl, fun p o h => by
    have hne : p ≠ w.heap.size := fun e => by rw [e, hnone] at h; cases h
    simpa [Gh.seal', hne] using h, fun _ _ h => h⟩
  refine ⟨hnone, hs.os.trans h.os, hs.tape.trans h.tape, hs.output.trans h.output, ?_, fun p y hp => ?_, h.inj, ?_, h.fin⟩
  · intro b o' hbo
    simp only [Gh.seal'] at hbo; split at hbo
    · rename_i e; cases hbo; rw [e, hh]; simp
    · have := h.sealed b o' hbo
      rw [hold b (Array.getElem?_eq_some_iff.1 this).1]; exact this
  · have hr := h.objs p y hp
    exact hr.move hle rfl fun l hl => hold _ (hr.blk_lt hl)
  · intro p y l hp hl
    have := (h.objs p y hp).blk_lt hl; simp only [Gh.seal', show l.blk ≠ w.heap.size from by omega, if_false]
    exact h.apart p y l hp hl
theorem Sim.write {g : Gh} {H : AHeap} {w w' : World} (h : Sim g H w) (hs : Same w w') {o : Nat} {x0 x : AO} (hx0 : H o = some x0) {l : Loc} (hl : g.loc o = some l)
    (hoth : ∀ b, b ≠ l.blk -> w'.heap[b]? = w.heap[b]?) {c : Array Value} {e : TypeId} {fz : Nat × Nat} (hb : w'.heap[l.blk]? = some (.cells c e fz)) (hsz : c.size = l.size) (hu : Unfrozen c fz)
    (hx : RepC g x c l.base) : Sim g (H.set o x) w' := by
  refine ⟨hs.os.trans h.os, hs.tape.trans h.tape, hs.output.trans h.output, ?_, ?_, ?_, ?_, ?_⟩
  · intro b ob hbo
    rw [hoth b (fun e => by have := h.apart o x0 l hx0 hl; rw [<- e] at this; rw [this] at hbo; cases hbo)]
    exact h.sealed b ob hbo
  · intro p y hp
    simp only [AHeap.set] at hp; by_cases hpo : p = o
    · subst hpo; simp at hp; subst hp
      exact .inr (.inl ⟨l, c, e, fz, hl, hb, hsz, hu, hx⟩)
    · rw [if_neg hpo] at hp
      exact (h.objs p y hp).move (.refl g) rfl fun l' hl' => hoth _ fun e => hpo (h.inj _ _ _ _ _ _ hp hx0 hl' hl e)
  · intro o1 o2 x1 x2 l1 l2 h1 h2 k1 k2 hbb
    simp only [AHeap.set] at h1 h2
    have f1 : ∃ y, H o1 = some y := by by_cases e1 : o1 = o; · exact ⟨x0, e1 ▸ hx0⟩
                                       · rw [if_neg e1] at h1; exact ⟨_, h1⟩
    have f2 : ∃ y, H o2 = some y := by by_cases e2 : o2 = o; · exact ⟨x0, e2 ▸ hx0⟩
                                       · rw [if_neg e2] at h2; exact ⟨_, h2⟩
    obtain ⟨y1, f1⟩ := f1; obtain ⟨y2, f2⟩ := f2; exact h.inj _ _ _ _ _ _ f1 f2 k1 k2 hbb
  · intro p y l' hp hl'
    simp only [AHeap.set] at hp; by_cases hpo : p = o
    · subst hpo; exact h.apart _ _ _ hx0 hl'
    · rw [if_neg hpo] at hp; exact h.apart _ _ _ hp hl'
  · obtain ⟨N, hN⟩ := h.fin
    refine ⟨max N (o + 1), fun p hp => ?_⟩
    have hpo : p ≠ o := by omega
    have := hN p (by omega)
    exact ⟨by simp [AHeap.set, hpo, this.1], this.2⟩
theorem Sim.place {g : Gh} {H : AHeap} {w w' : World} (h : Sim g H w) (hs : Same w w') {b base : Nat} (hb0 : g.h b = none) (hfree : ∀ o x l, H o = some x -> g.loc o = some l -> l.blk ≠ b)
    (hoth : ∀ k, k ≠ b -> w'.heap[k]? = w.heap[k]?) {c : Array Value} {e : TypeId} {fz : Nat × Nat} (hb : w'.heap[b]? = some (.cells c e fz)) (hu : Unfrozen c fz) {o : Nat} (ho : g.loc o = none) {x : AO}
    (hx : RepC g x c base) : Sim (g.at o ⟨b, base, c.size⟩) (H.set o x) w' := by
  have hle := g.le_at ho ⟨b, base, c.size⟩; have hself : (g.at o ⟨b, base, c.size⟩).loc o = some ⟨b, base, c.size⟩ := by simp [Gh.at]
  have hother : ∀ p, p ≠ o -> (g.at o ⟨b, base, c.size⟩).loc p = g.loc p := fun p hp => by simp [Gh.at, hp]
  refine ⟨hs.os.trans h.os, hs.tape.trans h.tape, hs.output.trans h.output, ?_, ?_, ?_, ?_, ?_⟩
  · intro k ob hk
    have hne : k ≠ b := fun e => by
      subst e; have hk' : g.h k = some ob := hk; rw [hb0] at hk'; cases hk'
    rw [hoth k hne]; exact h.sealed k ob hk
  · intro p y hp
    simp only [AHeap.set] at hp; by_cases hpo : p = o
    · subst hpo
      simp at hp; subst hp
      exact .inr (.inl ⟨_, c, e, fz, hself, hb, rfl, hu, hx.mono hle⟩)
    · rw [if_neg hpo] at hp
      exact (h.objs p y hp).move hle (hother p hpo) fun l hl => hoth _ (hfree p y l hp hl)
  · intro o1 o2 x1 x2 l1 l2 h1 h2 k1 k2 hbb
    simp only [AHeap.set] at h1 h2; by_cases e1 : o1 = o <;> by_cases e2 : o2 = o
    · rw [e1, e2]
    · subst e1; rw [hself] at k1; cases k1
      rw [if_neg e2] at h2; rw [hother _ e2] at k2; exact absurd hbb.symm (hfree _ _ _ h2 k2)
    · subst e2; rw [hself] at k2; cases k2
      rw [if_neg e1] at h1; rw [hother _ e1] at k1; exact absurd hbb (hfree _ _ _ h1 k1)
    · rw [if_neg e1] at h1; rw [if_neg e2] at h2; rw [hother _ e1] at k1; rw [hother _ e2] at k2
      exact h.inj _ _ _ _ _ _ h1 h2 k1 k2 hbb
  · intro p y l hp hl
    simp only [AHeap.set] at hp; by_cases hpo : p = o
    · subst hpo
      rw [hself] at hl; cases hl; exact hb0
    · rw [if_neg hpo] at hp; rw [hother p hpo] at hl
      exact h.apart p y l hp hl
  · obtain ⟨N, hN⟩ := h.fin
    refine ⟨max N (o + 1), fun p hp => ?_⟩
    have hpo : p ≠ o := by omega
    have := hN p (by omega)
    exact ⟨by simp [AHeap.set, hpo, this.1], by rw [hother p hpo]; exact this.2⟩
theorem Sim.erase {g : Gh} {H : AHeap} {w : World} (h : Sim g H w) (o : Nat) : Sim g (H.erase o) w := by
  have sub : ∀ p y, H.erase o p = some y -> H p = some y := fun p y hp => by
    simp only [AHeap.erase] at hp; split at hp
    · cases hp
    · exact hp
  refine ⟨h.os, h.tape, h.output, h.sealed, fun p y hp => h.objs p y (sub p y hp), fun o1 o2 x1 x2 l1 l2 h1 h2 => h.inj _ _ _ _ _ _ (sub _ _ h1) (sub _ _ h2), fun p y l hp => h.apart p y l (sub _ _ hp), ?_⟩
  obtain ⟨N, hN⟩ := h.fin; refine ⟨N, fun p hp => ⟨?_, (hN p hp).2⟩⟩
  simp only [AHeap.erase]; split
  · rfl
  · exact (hN p hp).1
theorem Sim.void {g : Gh} {H : AHeap} {w : World} (h : Sim g H w) {o : Nat} (ho : g.loc o = none) {x : AO} (hx : x.void) : Sim g (H.set o x) w := by
  have sub : ∀ p y l, H.set o x p = some y -> g.loc p = some l -> H p = some y := fun p y l hp hl => by
    simp only [AHeap.set] at hp; split at hp
    · rename_i e; rw [e, ho] at hl; cases hl
    · exact hp
  refine ⟨h.os, h.tape, h.output, h.sealed, ?_, fun o1 o2 x1 x2 l1 l2 h1 h2 k1 k2 => h.inj _ _ _ _ _ _ (sub _ _ _ h1 k1) (sub _ _ _ h2 k2) k1 k2, fun p y l hp hl => h.apart p y l (sub _ _ _ hp hl) hl, ?_⟩
  · intro p y hp
    simp only [AHeap.set] at hp; split at hp
    · rename_i e; cases hp; exact .inl ⟨hx, e ▸ ho⟩
    · exact h.objs p y hp
  · obtain ⟨N, hN⟩ := h.fin
    refine ⟨max N (o + 1), fun p hp => ?_⟩
    have hpo : p ≠ o := by omega
    have := hN p (by omega)
    exact ⟨by simp [AHeap.set, hpo, this.1], this.2⟩
def Gh.seal (g : Gh) (b : Nat) (ob : Obj) : Gh := { g with h := fun p => if p = b then some ob else g.h p }
theorem Gh.le_seal (g : Gh) {b : Nat} (hb : g.h b = none) (ob : Obj) : g.le (g.seal b ob) :=
  ⟨rfl, fun p o h => by
    have hne : p ≠ b := fun e => by rw [e, hb] at h; cases h
    simpa [Gh.seal, hne] using h, fun _ _ h => h⟩
theorem Gh.seal_self (g : Gh) (b : Nat) (ob : Obj) : (g.seal b ob).h b = some ob := by simp [Gh.seal]
theorem Sim.sealObj {g : Gh} {H : AHeap} {w : World} (h : Sim g H w) {o : Nat} {x : AO} (hx : H o = some x) {l : Loc} (hl : g.loc o = some l) {ob : Obj} (hb : w.heap[l.blk]? = some ob) :
    Sim (g.seal l.blk ob) (H.erase o) w := by
  have hle := g.le_seal (h.apart o x l hx hl) ob; have he := h.erase o; refine ⟨h.os, h.tape, h.output, ?_, fun p y hp => (he.objs p y hp).move hle rfl fun _ _ => rfl, he.inj, ?_, he.fin⟩
  · intro b o' hbo
    simp only [Gh.seal] at hbo; split at hbo
    · rename_i e; cases hbo; rw [e]; exact hb
    · exact h.sealed b o' hbo
  · intro p y l' hp hl'
    have hH : H p = some y /\ p ≠ o := by
      simp only [AHeap.erase] at hp; split at hp
      · cases hp
      · exact ⟨hp, by assumption⟩
    have hne : l'.blk ≠ l.blk := fun e => hH.2 (h.inj _ _ _ _ _ _ hH.1 hx hl' hl e)
    simp only [Gh.seal, hne, if_false]; exact he.apart p y l' hp hl'
theorem af5 {Q Q' : Exit -> Act -> World -> Prop} (hq : ∀ e a w, Q e a w -> Q' e a w) (h : LetsOut Q) : LetsOut Q' :=
  let ⟨a, w, h⟩ := h; ⟨a, w, hq _ _ _ h⟩
theorem ah6 {P : Program} {o : Oper} {a : Act} {w : World} {K K' : Act -> World -> Prop} {Q Q' : Exit -> Act -> World -> Prop}
    (hk : ∀ a w, K a w -> K' a w) (hq : ∀ e a w, Q e a w -> Q' e a w) (h : o.wp P a w K Q) : o.wp P a w K' Q' := by
  unfold Oper.wp at *; generalize (execOp a.eval o).run P w = r at *
  cases r with
  | ok n w' =>
    cases n <;> simp only [Oper.upon] at h ⊢ <;>
      first
        | exact hk _ _ h
        | exact Calls.mono h (fun e w'' he => by cases e <;> first | exact hk _ _ he | exact hq _ _ _ he | exact af5 hq he)
        | exact Rows.mono h (fun _ _ he => hk _ _ he)
  | halt x w' => cases x <;> simp only [Oper.upon] at h ⊢ <;> first | exact hq _ _ _ h | exact h
theorem qn {P : Program} {ops : Array Oper} {Q Q' : Exit -> Act -> World -> Prop} (hq : ∀ e a w, Q e a w -> Q' e a w) :
    ∀ (l : List Oper) (a : Act) (w : World), wpList P ops Q l a w -> wpList P ops Q' l a w
  | [], a, w, h => hq _ _ _ h
  | o :: l, a, w, h => by
    unfold wpList at *; split
    · rename_i hw
      rw [if_pos hw] at h; rcases h with h | ⟨h1, h2⟩
      · exact .inl (ah6 (fun a w => qn hq l a w) hq h)
      · exact .inr ⟨h1, af5 hq h2⟩
    · rename_i hw
      rw [if_neg hw] at h; exact qn hq l _ _ h
abbrev Regs := List (Nat × AV)
def rget : Regs -> Nat -> AV
  | [], _ => .unk
  | (j, x) :: R, i => if Nat.beq j i then x else rget R i
def RegRel (g : Gh) (R : Regs) (t : Array Value) : Prop := ∀ i, Rep g (rget R i) (t.getD i undef)
theorem RegRel.mono {g g' : Gh} (hg : g.le g') {R : Regs} {t : Array Value} (h : RegRel g R t) : RegRel g' R t := fun i => Rep.mono hg _ _ (h i)
theorem RegRel.put {g : Gh} {R : Regs} {t : Array Value} (h : RegRel g R t) {d : Nat} (hd : d < t.size) {x : AV} {v : Value} (hx : Rep g x v) :
    RegRel g ((d, x) :: R) (t.setIfInBounds d v) := by
  intro i; simp only [rget]; by_cases hi : d = i
  · subst hi
    simp only [Nat.beq_refl, if_true]; rw [Array.getD_eq_getD_getElem?, Array.getElem?_setIfInBounds_self_of_lt hd]; exact hx
  · have hb : Nat.beq d i = false := by
      cases hb : Nat.beq d i with
      | false => rfl
      | true => exact absurd (Nat.eq_of_beq_eq_true hb) hi
    simp only [hb, Bool.false_eq_true, if_false]; rw [Array.getD_eq_getD_getElem?, Array.getElem?_setIfInBounds_ne hi, <- Array.getD_eq_getD_getElem?]; exact h i
structure Pre (n : Nat) (R : Regs) (H : AHeap) (g : Gh) (a : Act) (w : World) : Prop where
  defers : a.defers = []
  size : a.tmps.size = n
  regs : RegRel g R a.tmps
  sim : Sim g H w
def Post (n : Nat) (g : Gh) (K : Exit -> Regs -> AHeap -> Prop) : Exit -> Act -> World -> Prop :=
  fun e a w => ∃ R H g', K e R H /\ g.le g' /\ Pre n R H g' a w
theorem Post.le {n : Nat} {g g' : Gh} {K : Exit -> Regs -> AHeap -> Prop} (hg : g.le g') {e : Exit} {a : Act} {w : World} (h : Post n g' K e a w) : Post n g K e a w :=
  let ⟨R, H, g'', hk, hl, hp⟩ := h; ⟨R, H, g'', hk, hg.trans hl, hp⟩
def AW (P : Program) (n : Nat) (c : Code) (K : Exit -> Regs -> AHeap -> Prop) (R : Regs) (H : AHeap) : Prop :=
  ∀ g a w, Pre n R H g a w -> c.wp P (Post n g K) a w
def AWL (P : Program) (n : Nat) (ops : Array Oper) (l : List Oper) (K : Exit -> Regs -> AHeap -> Prop) (R : Regs) (H : AHeap) : Prop :=
  ∀ g a w, Pre n R H g a w -> wpList P ops (Post n g K) l a w
def kseq (N : Regs -> AHeap -> Prop) (K : Exit -> Regs -> AHeap -> Prop) : Exit -> Regs -> AHeap -> Prop
  | .normal, R, H => N R H
  | e, R, H => K e R H
def kblock (id : Nat) (K : Exit -> Regs -> AHeap -> Prop) : Exit -> Regs -> AHeap -> Prop
  | .exit id', R, H => if id' = id then K .normal R H else K (.exit id') R H
  | e, R, H => K e R H
section
variable {P : Program} {n : Nat} {K : Exit -> Regs -> AHeap -> Prop} {R : Regs} {H : AHeap}
theorem arj {c : Code} {K' : Exit -> Regs -> AHeap -> Prop} (h : AW P n c K R H) (hk : ∀ e R H, K e R H -> K' e R H) : AW P n c K' R H :=
  fun g a w hp => wp_mono (h g a w hp) fun _ _ _ ⟨R, H, g', h1, h2, h3⟩ => ⟨R, H, g', hk _ _ _ h1, h2, h3⟩
theorem di (h : K .normal R H) : AW P n .skip K R H := fun g _ _ hp => wp_skip ⟨R, H, g, h, .refl g, hp⟩
theorem j7 (h : K .ret R H) : AW P n .ret K R H := fun g _ _ hp => wp_ret ⟨R, H, g, h, .refl g, hp⟩
theorem oo {id : Nat} (h : K (.exit id) R H) : AW P n (.exit id) K R H := fun g _ _ hp => wp_exit ⟨R, H, g, h, .refl g, hp⟩
theorem bf {x y : Code} (h : AW P n x (kseq (AW P n y K) K) R H) : AW P n (.seq x y) K R H := fun g a w hp =>
  wp_seq (wp_mono (h g a w hp) fun e a' w' ⟨R', H', g', h1, h2, h3⟩ => by
    cases e with
    | normal => exact wp_mono (h1 g' a' w' h3) fun _ _ _ hq => hq.le h2
    | _ => exact ⟨R', H', g', h1, h2, h3⟩)
theorem gi {id : Nat} {c : Code} (h : AW P n c (kblock id K) R H) : AW P n (.block id c) K R H := fun g a w hp =>
  wp_block (wp_mono (h g a w hp) fun e a' w' ⟨R', H', g', h1, h2, h3⟩ => by
    cases e with
    | exit id' =>
      simp only [kblock] at h1; simp only [Exit.inBlock]; split
      · rename_i hi; rw [if_pos hi] at h1; exact ⟨R', H', g', h1, h2, h3⟩
      · rename_i hi; rw [if_neg hi] at h1; exact ⟨R', H', g', h1, h2, h3⟩
    | _ => exact ⟨R', H', g', h1, h2, h3⟩)
def am (R : Regs) : Operand -> AV
  | .tmp t => rget R t
  | .const (.agg cs) => .agg (cs.toList.map .raw)
  | .const (.tuple cs) => .tup (cs.toList.map .raw)
  | .const (.string s) => .str s.data.toList
  | .const v => .raw v
  | .global g => .raw (.pointer (some ⟨g, 0, none⟩))
  | .func f => .fnc (.func f) [] []
theorem yr {g : Gh} : ∀ l : List Value, RepL g (l.map .raw) l
  | [] => by simp only [List.map_nil, RepL]
  | v :: l => by simp only [List.map_cons, RepL]; exact ⟨v, l, rfl, by simp only [Rep], yr l⟩
theorem aek {g : Gh} {a : Act} (h : RegRel g R a.tmps) : ∀ x : Operand, Rep g (am R x) (a.eval x)
  | .tmp t => h t
  | .const v => by cases v <;> simp only [am, Act.eval, Rep] <;> first | exact ⟨_, rfl, yr _⟩ | simp
  | .global g => by simp only [am, Act.eval, Rep]
  | .func f => by simp only [am, Act.eval, Rep]; exact ⟨#[], #[], rfl, by simp only [RepL], by simp only [RepL]⟩
theorem qp {c : Operand} {x y : Code} {b : Bool} (hc : am R c = .raw (.bool b)) (ht : b = true -> AW P n x K R H) (hf : b = false -> AW P n y K R H) :
    AW P n (.cond c x y) K R H := fun g a w hp => by
  have h := aek hp.regs c; rw [hc] at h; simp only [Rep] at h
  cases b
  · exact wp_cond h (hf rfl g a w hp)
  · exact wp_cond h (ht rfl g a w hp)
theorem ca {id : Nat} {ops : Array Oper} (h : AWL P n ops ops.toList K R H) : AW P n (.region id ops false) K R H :=
  fun g a w hp => wp_region_list (h g a w hp)
theorem jb {ops : Array Oper} (h : K .normal R H) : AWL P n ops [] K R H := fun g _ _ hp => ⟨R, H, g, h, .refl g, hp⟩
def RSub : Regs -> Regs -> Prop
  | [], _ => True
  | (i, x) :: R0, R => rget R i = x /\ RSub R0 R
theorem RSub.get : ∀ {R0 R : Regs}, RSub R0 R -> ∀ i, rget R0 i = .unk \/ rget R0 i = rget R i
  | [], _, _, _ => .inl rfl
  | (j, x) :: R0, R, h, i => by
    simp only [rget]; by_cases hb : Nat.beq j i = true
    · simp only [hb, if_true]; exact .inr (by rw [<- Nat.eq_of_beq_eq_true hb]; exact h.1.symm)
    · simp only [hb, Bool.false_eq_true, if_false]; exact RSub.get h.2 i
theorem RegRel.sub {g : Gh} {R0 R : Regs} {t : Array Value} (h : RegRel g R t) (hs : RSub R0 R) : RegRel g R0 t := fun i => by
  rcases hs.get i with h0 | h0
  · rw [h0]; simp only [Rep]
  · rw [h0]; exact h i
def Ent (R : Regs) (H : AHeap) (R' : Regs) (H' : AHeap) : Prop :=
  ∀ g t w, RegRel g R t -> Sim g H w -> ∃ g', g.le g' /\ RegRel g' R' t /\ Sim g' H' w
theorem Ent.refl (R : Regs) (H : AHeap) : Ent R H R H := fun g _ _ h1 h2 => ⟨g, .refl g, h1, h2⟩
theorem Ent.trans {R1 R2 R3 : Regs} {H1 H2 H3 : AHeap} (h : Ent R1 H1 R2 H2) (k : Ent R2 H2 R3 H3) : Ent R1 H1 R3 H3 := fun g t w h1 h2 =>
  let ⟨g', l1, h1', h2'⟩ := h g t w h1 h2
  let ⟨g'', l2, h1'', h2''⟩ := k g' t w h1' h2'
  ⟨g'', l1.trans l2, h1'', h2''⟩
theorem Ent.sub {R0 R : Regs} (H : AHeap) (hs : RSub R0 R) : Ent R H R0 H := fun g _ _ h1 h2 => ⟨g, .refl g, h1.sub hs, h2⟩
theorem dy {c : Code} {R' : Regs} {H' : AHeap} (he : Ent R H R' H') (h : AW P n c K R' H') : AW P n c K R H := fun g a w hp =>
  let ⟨g', hl, h1, h2⟩ := he g a.tmps w hp.regs hp.sim
  wp_mono (h g' a w ⟨hp.defers, hp.size, h1, h2⟩) fun _ _ _ hq => hq.le hl
theorem qr {ops : Array Oper} {l : List Oper} {R' : Regs} {H' : AHeap} (he : Ent R H R' H') (h : AWL P n ops l K R' H') : AWL P n ops l K R H := fun g a w hp => by
  obtain ⟨g', hl, h1, h2⟩ := he g a.tmps w hp.regs hp.sim; have := h g' a w ⟨hp.defers, hp.size, h1, h2⟩; exact qn (fun _ _ _ hq => hq.le hl) _ _ _ this
end
end Go.Am
