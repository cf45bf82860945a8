/-
  From a contract on the abstract machine to a row's contract, for every law whose arguments are made of integers, bools, texts, slices and structs. No program in sight.
-/
import Derived.Test.YtbciofnejefkiaaAmHand
import Derived.Carry
import Derived.OpenShut
import Derived.ReadAgain
set_option linter.unusedSimpArgs false
set_option linter.unusedVariables false
namespace Go.Am
open Go Go.RowKit
inductive Ty where
  | bool
  | int (k : IntKind)
  | str
  | bys
  | sl (t : Ty)
  | unit
  | pair (a b : Ty)
def Ty.V : Ty -> Type
  | .bool => Bool
  | .int _ => Int
  | .str => List UInt8
  | .bys => List UInt8
  | .sl t => List t.V
  | .unit => Unit
  | .pair a b => a.V × b.V
def Ty.ok : (t : Ty) -> t.V -> Prop
  | .bool, _ => True
  | .int k, z => (Lit.int k z).wf = true
  | .str, _ => True
  | .bys, _ => True
  | .sl t, (l : List t.V) => ∀ x ∈ l, t.ok x
  | .unit, _ => True
  | .pair a b, x => a.ok x.1 /\ b.ok x.2
def Ty.bulk : (t : Ty) -> t.V -> Nat
  | .bool, _ => 1
  | .int _, _ => 1
  | .str, (s : List UInt8) => s.length + 1
  | .bys, (s : List UInt8) => s.length + 1
  | .sl t, l => (l.map t.bulk).sum + 1
  | .unit, _ => 0
  | .pair a b, x => a.bulk x.1 + b.bulk x.2
def Ty.len : Ty -> Nat
  | .unit => 0
  | .pair a b => a.len + b.len
  | _ => 1
def Ty.avs : (t : Ty) -> t.V -> List AV
  | .bool, b => [.raw (.bool b)]
  | .int k, z => [.raw (.int k z)]
  | .str, s => [.str s]
  | .bys, s => [.bys s]
  | .sl t, l => [.sls l.length (l.flatMap t.avs)]
  | .unit, _ => []
  | .pair a b, x => a.avs x.1 ++ b.avs x.2
theorem Ty.avs_len : ∀ (t : Ty) (x : t.V), (t.avs x).length = t.len
  | .bool, _ => rfl
  | .int _, _ => rfl
  | .str, _ => rfl
  | .bys, _ => rfl
  | .sl _, _ => rfl
  | .unit, _ => rfl
  | .pair a b, x => by simp [Ty.avs, Ty.len, a.avs_len, b.avs_len]
def Ty.arg : (t : Ty) -> t.V -> AV
  | .bool, b => .raw (.bool b)
  | .int k, z => .raw (.int k z)
  | .str, s => .str s
  | .bys, s => .bys s
  | .sl t, l => .sls l.length (l.flatMap t.avs)
  | .unit, _ => .agg []
  | .pair a b, x => .agg (a.avs x.1 ++ b.avs x.2)
def Ty.args : (t : Ty) -> t.V -> List AV
  | .pair a b, x => a.arg x.1 :: b.args x.2
  | _, _ => []
def isFs (P : Program) (f : Ty -> TypeId -> Bool) : Ty -> List Field -> Nat -> Nat -> Bool
  | .unit, [], off, tot => off == tot
  | .pair a b, fd :: fs, off, tot => fd.offset == off && P.cellsOf fd.type == a.len && f a fd.type && isFs P f b fs (off + a.len) tot
  | _, _, _, _ => false
def isTy (P : Program) : Nat -> Ty -> TypeId -> Bool
  | 0, _, _ => false
  | m + 1, ty, t =>
    match P.underlying t, ty with
    | some .bool, .bool => true
    | some (.int k), .int k' => decide (k = k')
    | some .string, .str => true
    | some (.slice e), .bys => (match P.underlying e with | some (.int .u8) => true | _ => false) && P.cellsOf e == 1
    | some (.slice e), .sl ty' => isTy P m ty' e && P.cellsOf e == ty'.len && decide (0 < ty'.len)
    | some (.struct fs), ty => isFs P (isTy P m) ty fs.toList 0 (P.cellsOf t)
    | _, _ => false
structure Bulk (H : Type) where
  b : DataW H -> Nat
  all : List (DataW H) -> Nat
  lit : ∀ l, 1 <= b (.lit l)
  str : ∀ bs, b (.lit (.string bs)) = bs.length + 1
  nil : 1 <= b .nil
  slice : ∀ e s, b (.slice e s) = all e + all s + 1
  agg : ∀ p, b (.agg p) = all p + 1
  all0 : all [] = 0
  all1 : ∀ d l, all (d :: l) = b d + all l
theorem aip {g : Gh} : ∀ (xs ys : List AV) (c : Array Value) (k : Nat), RepAt g (xs ++ ys) c k ↔ RepAt g xs c k /\ RepAt g ys c (k + xs.length)
  | [], ys, c, k => by simp [RepAt]
  | x :: xs, ys, c, k => by
    simp only [List.cons_append, RepAt, aip xs ys c (k + 1), List.length_cons, and_assoc]; rw [show k + 1 + xs.length = k + (xs.length + 1) by omega]
theorem cell?_get {w : World} {b off : Nat} {v : Value} (h : w.cell? ⟨b, off, none⟩ = some v) : ∃ c e fz, w.heap[b]? = some (.cells c e fz) /\ c[off]? = some v := by
  unfold World.cell? at h; split at h
  · rename_i c e fz hb
    exact ⟨c, e, fz, hb, by simpa using h⟩
  · cases h
theorem cell?_plain {w : World} {a : Addr} {v : Value} (h : w.cell? a = some v) : a = ⟨a.block, a.off, none⟩ := by
  obtain ⟨b, off, sp⟩ := a
  cases sp with
  | none => rfl
  | some s =>
    unfold World.cell? at h; split at h
    · simp at h
    · cases h
theorem cells?_get {w : World} {a : Addr} {m : Nat} {cs : List Value} (h : w.cells? 0 a m = some cs) : cs.length = m /\ ∀ j v, cs[j]? = some v -> w.cell? (a.add j) = some v := by
  unfold World.cells? at h; rw [if_pos (Nat.zero_le _)] at h; have hl : cs.length = m := by simpa using mapM_some_length h
  refine ⟨hl, fun j v hj => ?_⟩
  have hlt : j < m := by rw [<- hl]; exact (List.getElem?_eq_some_iff.1 hj).1
  have := mapM_some_get h j j (by simp [hlt])
  rw [this]; exact hj
theorem add_plain (b off j : Nat) : Addr.add ⟨b, off, none⟩ j = ⟨b, off + j, none⟩ := Go.WideShapes.add_plain _ _ _
section
variable {H : Type} {enc : TypeId × Value -> H} {P : Program} {w : World} (B : Bulk H)
theorem ahu {t : Ty} : ∀ (xs : List t.V) (ds : List (DataW H)), xs.length = ds.length -> (∀ (i : Nat) x d, xs[i]? = some x -> ds[i]? = some d -> t.bulk x <= B.b d) -> (xs.map t.bulk).sum <= B.all ds
  | [], ds, h, _ => by simp
  | x :: xs, [], h, _ => by simp at h
  | x :: xs, d :: ds, h, hb => by
    have h1 := hb 0 x d rfl rfl; have h2 := ahu xs ds (by simpa using h) fun i y e hy he => hb (i + 1) y e (by simpa using hy) (by simpa using he)
    simp only [List.map_cons, List.sum_cons, B.all1]; omega
theorem collect {α β : Type} {R : Nat -> α -> β -> Prop} : ∀ (ds : List α) (k : Nat), (∀ (i : Nat) d, ds[i]? = some d -> ∃ x, R (k + i) d x) -> ∃ xs : List β, xs.length = ds.length /\ ∀ (i : Nat) d x, ds[i]? = some d -> xs[i]? = some x -> R (k + i) d x
  | [], k, _ => ⟨[], rfl, fun i d x h => by simp at h⟩
  | d :: ds, k, h => by
    obtain ⟨x, hx⟩ := h 0 d rfl
    obtain ⟨xs, h1, h2⟩ := collect ds (k + 1) fun i e he => by
      obtain ⟨y, hy⟩ := h (i + 1) e (by simpa using he)
      exact ⟨y, by rwa [Nat.add_assoc, Nat.add_comm 1 i]⟩
    refine ⟨x :: xs, by simp [h1], fun i e y he hy => ?_⟩
    cases i with
    | zero => simp at he hy; subst he; subst hy; exact hx
    | succ i => have := h2 i e y (by simpa using he) (by simpa using hy); rwa [Nat.add_assoc, Nat.add_comm 1 i] at this
theorem ai7 {g : Gh} {t : Ty} {c : Array Value} : ∀ (xs : List t.V) (k : Nat), (∀ (i : Nat) x, xs[i]? = some x -> RepAt g (t.avs x) c (k + i * t.len)) -> RepAt g (xs.flatMap t.avs) c k
  | [], k, _ => by simp [RepAt]
  | x :: xs, k, h => by
    rw [List.flatMap_cons, aip, t.avs_len]; refine ⟨by simpa using h 0 x rfl, ai7 xs (k + t.len) fun i y hy => ?_⟩
    have := h (i + 1) y (by simpa using hy)
    rwa [Nat.add_mul, Nat.one_mul, Nat.add_comm (i * t.len), <- Nat.add_assoc] at this
theorem aog {xs : List AV} {cs : List Value} {b off : Nat} {c : Array Value} {e : TypeId} {fz : Nat × Nat} (hb : w.heap[b]? = some (.cells c e fz)) {g : Gh} (h : RepL g xs cs) (h1 : ∀ v ∈ cs, one v)
    (hc : ∀ j v, cs[j]? = some v -> w.cell? ⟨b, off + j, none⟩ = some v) : RepAt g xs c off := by
  rw [i6]; obtain ⟨_, h2⟩ := (ny _ _).1 h; intro i x hi; obtain ⟨u, hu, hr⟩ := h2 i x hi; obtain ⟨c', e', fz', hb', hcu⟩ := cell?_get (hc i u hu); rw [hb] at hb'; cases hb'; exact ⟨u, hcu, h1 u (List.mem_of_getElem? hu), hr⟩
def Good (B : Bulk H) (w : World) (ty : Ty) (d : DataW H) (cs : List Value) (x : ty.V) : Prop := ty.ok x /\ ty.bulk x <= B.b d /\ RepL (Gh.start w) (ty.avs x) cs /\ ∀ v ∈ cs, one v
def GoodFs (B : Bulk H) (w : World) (ty : Ty) (ds : List (DataW H)) (cs : List Value) (x : ty.V) : Prop := ty.ok x /\ ty.bulk x <= B.all ds /\ RepL (Gh.start w) (ty.avs x) cs /\ ∀ v ∈ cs, one v
theorem aof : ∀ (m : Nat) (ty : Ty) (fuel : Nat) (t : TypeId) (cs : List Value) (x : DataW H × List MemPlace), isTy P m ty t = true ->
    DataW.trod enc P w 0 (fun _ => true) true fuel t cs = some x -> ∃ y : ty.V, Good B w ty x.1 cs y := by
  intro m
  induction m with
  | zero => intro ty fuel t cs x hty; simp [isTy] at hty
  | succ m ih =>
    intro ty fuel t cs x hty h; unfold isTy at hty; split at hty
    · rename_i hu
      obtain ⟨b, rfl, rfl⟩ := DataW.trod_bool hu h; exact ⟨b, trivial, B.lit _, by simp only [Ty.avs, RepL]; exact ⟨_, _, rfl, by simp only [Rep], rfl⟩, by rintro v hv; simp at hv; subst hv; rfl⟩
    · rename_i k k' hu
      have hk := of_decide_eq_true hty; subst hk; obtain ⟨z, rfl, rfl, hz⟩ := DataW.trod_int hu h; exact ⟨z, hz, B.lit _, by simp only [Ty.avs, RepL]; exact ⟨_, _, rfl, by simp only [Rep], rfl⟩, by rintro v hv; simp at hv; subst hv; rfl⟩
    · rename_i hu
      obtain ⟨s, rfl, rfl, _⟩ := DataW.trod_string hu h; exact ⟨s.data.toList, trivial, by rw [B.str]; exact Nat.le_refl _, by simp only [Ty.avs, RepL]; exact ⟨_, _, rfl, by simp only [Rep], rfl⟩, by rintro v hv; simp at hv; subst hv; rfl⟩
    · rename_i e hu
      simp only [Bool.and_eq_true, beq_iff_eq] at hty; obtain ⟨he, hz⟩ := hty; split at he
      case h_2 => cases he
      rename_i hue
      rcases DataW.trod_slice hu h with ⟨rfl, rfl⟩ | ⟨a, len, cap, elems, rest, n, rfl, rfl, rfl, _, hcap, _, hlen, hget, _⟩
      · exact ⟨[], trivial, B.nil, by simp only [Ty.avs, RepL]; exact ⟨_, _, rfl, by simp only [Rep]; exact .inl ⟨trivial, _, _, rfl⟩, rfl⟩, by rintro v hv; simp at hv; subst hv; rfl⟩
      · have hone : ∀ (i : Nat) y, elems[i]? = some y -> ∃ x : UInt8, 1 <= B.b y.1 /\ w.cell? (a.add i) = some (.int .u8 (x.toNat : Int)) := fun i y hy => by
          have hi : i < len := by rw [<- hlen]; exact (List.getElem?_eq_some_iff.1 hy).1
          have hh := hget i hi; rw [hy] at hh; simp only [Option.bind_eq_some_iff] at hh; obtain ⟨cs', hc', hy'⟩ := hh; rw [hz, Nat.mul_one] at hc'; obtain ⟨l1, l2⟩ := cells?_get hc'; obtain ⟨z, rfl, rfl, hwf⟩ := DataW.trod_int hue hy'; have h255 := bounds_u8 hwf; refine ⟨UInt8.ofNat z.toNat, B.lit _, ?_⟩; have hn : ((UInt8.ofNat z.toNat).toNat : Int) = z := by simp; omega
          rw [hn]; have := l2 0 _ rfl; simpa [Addr.add] using this
        obtain ⟨bs, hbl, hbs⟩ := collect (R := fun i (y : DataW H × List MemPlace) (x : UInt8) => 1 <= B.b y.1 /\ w.cell? (a.add i) = some (.int .u8 (x.toNat : Int))) elems 0 (fun i y hy => by rw [Nat.zero_add]; exact hone i y hy)
        refine ⟨bs, trivial, ?_, ?_, by rintro v hv; simp at hv; subst hv; rfl⟩
        · rw [B.slice]
          have : ∀ (l : List (DataW H × List MemPlace)), (∀ y ∈ l, 1 <= B.b y.1) -> l.length <= B.all (l.map (·.1)) := fun l => by
            induction l with
            | nil => intro _; simp
            | cons y l ih2 =>
              intro hl; have h1 := hl y (by simp)
              have h2 := ih2 fun z hz => hl z (by simp [hz])
              simp only [List.map_cons, B.all1, List.length_cons]; omega
          have := this elems fun y hy => by
            obtain ⟨i, hi, rfl⟩ := List.getElem_of_mem hy; obtain ⟨x, hx, _⟩ := hone i _ (List.getElem?_eq_getElem hi); exact hx
          show bs.length + 1 <= _
          omega
        · simp only [Ty.avs, RepL]
          refine ⟨_, _, rfl, ?_, rfl⟩; simp only [Rep]
          cases bs with
          | nil => exact .inl ⟨rfl, _, _, by simp at hbl; rw [show len = 0 by omega]⟩
          | cons x0 bs' =>
            have h0 : 0 < elems.length := by simp at hbl; omega
            have hc0 := (hbs 0 _ x0 (List.getElem?_eq_getElem h0) rfl).2; rw [Nat.zero_add, show a.add 0 = a by simp [Addr.add]] at hc0
            have hpl := cell?_plain hc0; obtain ⟨c, e2, fz, hb2, hcc⟩ := cell?_get (hpl ▸ hc0); refine .inr ⟨a.block, a.off, cap, c, e2, fz, by rw [<- hpl, hbl, hlen], by rw [hbl, hlen]; exact hcap, hb2, fun i x hi => ?_⟩
            have hil : i < elems.length := by rw [<- hbl]; exact (List.getElem?_eq_some_iff.1 hi).1
            have hci := (hbs i _ x (List.getElem?_eq_getElem hil) hi).2; rw [Nat.zero_add, hpl, add_plain] at hci; obtain ⟨c', e', fz', hb', hcu⟩ := cell?_get hci; rw [hb2] at hb'; cases hb'; exact hcu
    · rename_i e ty' hu
      simp only [Bool.and_eq_true, beq_iff_eq, decide_eq_true_eq] at hty; obtain ⟨⟨hte, hz⟩, hpos⟩ := hty; rcases DataW.trod_slice hu h with ⟨rfl, rfl⟩ | ⟨a, len, cap, elems, rest, n, rfl, rfl, rfl, _, hcap, _, hlen, hget, _⟩
      · exact ⟨[], by intro x hx; simp at hx, B.nil, by simp only [Ty.avs, RepL]; exact ⟨_, _, rfl, by simp only [Rep]; exact .inl ⟨rfl, rfl, _, _, rfl⟩, rfl⟩, by rintro v hv; simp at hv; subst hv; rfl⟩
      · have hone : ∀ (i : Nat) y, elems[i]? = some y -> ∃ x : ty'.V, ∃ cs', Good B w ty' y.1 cs' x /\ w.cells? 0 (a.add (i * ty'.len)) ty'.len = some cs' := fun i y hy => by
          have hi : i < len := by rw [<- hlen]; exact (List.getElem?_eq_some_iff.1 hy).1
          have hh := hget i hi; rw [hy] at hh; simp only [Option.bind_eq_some_iff] at hh; obtain ⟨cs', hc', hy'⟩ := hh; rw [hz] at hc'; obtain ⟨x, hx⟩ := ih ty' n e cs' y hte hy'; exact ⟨x, cs', hx, hc'⟩
        obtain ⟨xs, hbl, hbs⟩ := collect (R := fun i (y : DataW H × List MemPlace) (x : ty'.V) => ∃ cs', Good B w ty' y.1 cs' x /\ w.cells? 0 (a.add (i * ty'.len)) ty'.len = some cs') elems 0 (fun i y hy => by rw [Nat.zero_add]; exact hone i y hy)
        simp only [Nat.zero_add] at hbs; refine ⟨xs, ?_, ?_, ?_, by rintro v hv; simp at hv; subst hv; rfl⟩
        · intro x hx
          obtain ⟨i, hi, rfl⟩ := List.getElem_of_mem hx; obtain ⟨cs', hg, _⟩ := hbs i _ _ (List.getElem?_eq_getElem (by omega)) (List.getElem?_eq_getElem hi)
          exact hg.1
        · rw [B.slice]
          have := ahu B xs (elems.map (·.1)) (by simp [hbl]) fun i x d' hx hd' => by
            rw [List.getElem?_map] at hd'
            cases hq : elems[i]? with
            | none => rw [hq] at hd'; cases hd'
            | some y =>
              rw [hq] at hd'; simp at hd'; subst hd'
              obtain ⟨cs', hg, _⟩ := hbs i y x hq hx; exact hg.2.1
          show (xs.map ty'.bulk).sum + 1 <= _
          omega
        · simp only [Ty.avs, RepL]
          refine ⟨_, _, rfl, ?_, rfl⟩; simp only [Rep]
          cases xs with
          | nil => exact .inl ⟨rfl, rfl, _, _, by simp at hbl; rw [show len = 0 by omega]⟩
          | cons x0 xs' =>
            have h0 : 0 < elems.length := by simp at hbl; omega
            obtain ⟨cs0, hg0, hc0⟩ := hbs 0 _ x0 (List.getElem?_eq_getElem h0) rfl; obtain ⟨l1, l2⟩ := cells?_get hc0; have hcell0 := l2 0 cs0[0] (List.getElem?_eq_getElem (by omega))
            rw [Nat.zero_mul] at hcell0; rw [show (a.add 0).add 0 = a by simp [Addr.add]] at hcell0
            have hpl := cell?_plain hcell0; obtain ⟨c, e2, fz, hb2, hcc⟩ := cell?_get (hpl ▸ hcell0); refine .inr ⟨a.block, a.off, cap, c, e2, fz, by rw [<- hpl, hbl, hlen], by rw [hbl, hlen]; exact hcap, hb2, ai7 _ _ fun i x hi => ?_⟩
            have hil : i < elems.length := by rw [<- hbl]; exact (List.getElem?_eq_some_iff.1 hi).1
            obtain ⟨csi, hgi, hci⟩ := hbs i _ x (List.getElem?_eq_getElem hil) hi; obtain ⟨m1, m2⟩ := cells?_get hci; refine aog hb2 hgi.2.2.1 hgi.2.2.2 fun j v hj => ?_
            have := m2 j v hj
            rwa [hpl, add_plain, add_plain] at this
    · rename_i _ ty0 fs hu
      obtain ⟨xs, n, rfl, rfl, hcl, hxl, hget⟩ := DataW.trod_struct hu h
      have key : ∀ (ty : Ty) (fl : List Field) (xl : List (DataW H × List MemPlace)) (off : Nat), isFs P (isTy P m) ty fl off (P.cellsOf t) = true -> xl.length = fl.length ->
          (∀ (i : Nat) (f : Field), fl[i]? = some f -> DataW.trod enc P w 0 (fun _ => true) true n f.type ((cs.drop f.offset).take (P.cellsOf f.type)) = xl[i]?) -> ∃ x : ty.V, GoodFs B w ty (xl.map (·.1)) (cs.drop off) x := by
        intro ty
        induction ty with
        | unit =>
          intro fl xl off hf hx _
          cases fl with
          | nil =>
            simp [isFs] at hf
            have hdr : cs.drop off = [] := by rw [hf, <- hcl]; simp
            exact ⟨(), trivial, Nat.zero_le _, by simp only [Ty.avs, RepL]; exact hdr, by rw [hdr]; intro v hv; simp at hv⟩
          | cons f fl => simp [isFs] at hf
        | pair a b iha ihb =>
          intro fl xl off hf hx hg
          cases fl with
          | nil => simp [isFs] at hf
          | cons f fl =>
            cases xl with
            | nil => simp at hx
            | cons y ys =>
            simp only [isFs, Bool.and_eq_true, beq_iff_eq] at hf; obtain ⟨⟨⟨h1, h2⟩, h3⟩, h4⟩ := hf; have hy := hg 0 f rfl; obtain ⟨x1, hx1⟩ := ih a n f.type _ y h3 hy; obtain ⟨x2, hx2⟩ := ihb fl ys (off + a.len) h4 (by simpa using hx) fun i g hi => hg (i + 1) g (by simpa using hi)
            rw [h1, h2] at hx1
            have hsplit : cs.drop off = (cs.drop off).take a.len ++ cs.drop (off + a.len) := by
              rw [<- List.drop_drop, List.take_append_drop]
            refine ⟨(x1, x2), ⟨hx1.1, hx2.1⟩, ?_, ?_, ?_⟩
            · simp only [Ty.bulk, List.map_cons, B.all1]
              have := hx1.2.1; have := hx2.2.1; omega
            · rw [hsplit]
              simp only [Ty.avs]; exact wz hx1.2.2.1 hx2.2.2.1
            · rw [hsplit]
              intro v hv; rcases List.mem_append.1 hv with hv | hv
              · exact hx1.2.2.2 v hv
              · exact hx2.2.2.2 v hv
        | bool => intro fl xl off hf; cases fl <;> simp [isFs] at hf
        | int k => intro fl xl off hf; cases fl <;> simp [isFs] at hf
        | str => intro fl xl off hf; cases fl <;> simp [isFs] at hf
        | bys => intro fl xl off hf; cases fl <;> simp [isFs] at hf
        | sl t => intro fl xl off hf; cases fl <;> simp [isFs] at hf
      obtain ⟨x, hx⟩ := key _ fs.toList xs 0 hty (by simpa using hxl) fun i f hi => hget i f (by simpa using hi)
      refine ⟨x, hx.1, ?_, by simpa using hx.2.2.1, by simpa using hx.2.2.2⟩
      rw [B.agg]; have := hx.2.1; omega
    · cases hty
theorem ao5 {m : Nat} {ty : Ty} {t : TypeId} {v : Value} {d : DataW H} {ps : List MemPlace} {base : Nat} (hty : isTy P m ty t = true) (hval : Value.okWide P w .any base t v)
    (h : DataW.Trod enc P w 0 (fun _ => true) true t v d ps) : ∃ y : ty.V, ty.ok y /\ ty.bulk y <= B.b d /\ Rep (Gh.start w) (ty.arg y) v := by
  obtain ⟨fuel, h⟩ := h; obtain ⟨y, h1, h2, h3, h4⟩ := aof B m ty fuel t _ (d, ps) hty h; refine ⟨y, h1, h2, ?_⟩
  cases m with
  | zero => simp [isTy] at hty
  | succ m =>
  unfold isTy at hty; unfold Value.okWide at hval
  have leaf : ∀ {a : AV}, (∀ cs, v ≠ .agg cs) -> (∀ cs, v ≠ .tuple cs) -> RepL (Gh.start w) [a] v.cells.toList -> Rep (Gh.start w) a v := fun hna hnt hr => by
    have hc : v.cells = #[v] := by cases v <;> first | rfl | exact absurd rfl (hna _) | exact absurd rfl (hnt _)
    rw [hc] at hr; simp only [RepL] at hr; obtain ⟨u, us, he, hr, rfl⟩ := hr; simp at he
    rw [he]; exact hr
  split at hty
  · rename_i hu
    rw [hu] at hval; refine leaf ?_ ?_ h3 <;> (rintro cs rfl; simp [Cell.okWide, Cell.ok, hu] at hval)
  · rename_i k k' hu
    rw [hu] at hval; refine leaf ?_ ?_ h3 <;> (rintro cs rfl; simp [Cell.okWide, Cell.ok, hu] at hval)
  · rename_i hu
    rw [hu] at hval; refine leaf ?_ ?_ h3 <;> (rintro cs rfl; simp [Cell.okWide, Cell.ok, hu] at hval)
  · rename_i e hu
    rw [hu] at hval; refine leaf ?_ ?_ h3 <;> (rintro cs rfl; simp [Cell.okWide, Cell.ok, hu] at hval)
  · rename_i e ty' hu
    rw [hu] at hval; refine leaf ?_ ?_ h3 <;> (rintro cs rfl; simp [Cell.okWide, Cell.ok, hu] at hval)
  · rename_i tyA _ ty0 fs hu
    rw [hu] at hval; obtain ⟨cs, rfl, _, _⟩ := hval; have he : (Value.agg cs).cells = cs := rfl; rw [he] at h3
    cases tyA with
    | unit => simp only [Ty.arg, Rep]; exact ⟨cs, rfl, h3⟩
    | pair a b => simp only [Ty.arg, Rep]; exact ⟨cs, rfl, h3⟩
    | _ => cases fs.toList <;> simp [isFs] at hty
  · cases hty
def isTys (P : Program) : Ty -> List TypeId -> Bool
  | .unit, [] => true
  | .pair a b, t :: ts => isTy P 20 a t && isTys P b ts
  | _, _ => false
theorem aj1 {base : Nat} : ∀ (ty : Ty) (ts : List TypeId) (vs : List Value) (ds : List (DataW H)) (ps : List MemPlace), isTys P ty ts = true -> (∀ (j : Nat) t v, ts[j]? = some t -> vs[j]? = some v -> Value.okWide P w .any base t v) ->
    DataW.TrodAll enc P w 0 (fun _ => true) true ts vs ds ps -> ∃ y : ty.V, ty.ok y /\ ty.bulk y <= B.all ds /\ RepL (Gh.start w) (ty.args y) vs
  | .unit, [], [], [], ps, _, _, _ => ⟨(), trivial, Nat.zero_le _, by simp only [Ty.args, RepL]⟩
  | .unit, [], _ :: _, _, ps, _, _, h => by simp [DataW.TrodAll] at h
  | .unit, [], [], _ :: _, ps, _, _, h => by simp [DataW.TrodAll] at h
  | .pair a b, t :: ts, [], ds, ps, _, _, h => by simp [DataW.TrodAll] at h
  | .pair a b, t :: ts, v :: vs, [], ps, _, _, h => by simp [DataW.TrodAll] at h
  | .pair a b, t :: ts, v :: vs, d :: ds, ps, hty, hval, h => by
    simp only [isTys, Bool.and_eq_true] at hty; obtain ⟨p, q, h1, h2, _⟩ := h; obtain ⟨y, a1, a2, a3⟩ := ao5 B hty.1 (hval 0 t v rfl rfl) h1; obtain ⟨z, b1, b2, b3⟩ := aj1 b ts vs ds q hty.2 (fun j t' v' ht hv => hval (j + 1) t' v' (by simpa using ht) (by simpa using hv)) h2
    refine ⟨(y, z), ⟨a1, b1⟩, ?_, ?_⟩
    · simp only [Ty.bulk, B.all1]; omega
    · simp only [Ty.args, RepL]; exact ⟨v, vs, rfl, a3, b3⟩
  | .unit, _ :: _, _, _, _, hty, _, _ => by simp [isTys] at hty
  | .pair _ _, [], _, _, _, hty, _, _ => by simp [isTys] at hty
  | .bool, [], _, _, _, hty, _, _ => by simp [isTys] at hty
  | .bool, _ :: _, _, _, _, hty, _, _ => by simp [isTys] at hty
  | .int _, [], _, _, _, hty, _, _ => by simp [isTys] at hty
  | .int _, _ :: _, _, _, _, hty, _, _ => by simp [isTys] at hty
  | .str, [], _, _, _, hty, _, _ => by simp [isTys] at hty
  | .str, _ :: _, _, _, _, hty, _, _ => by simp [isTys] at hty
  | .bys, [], _, _, _, hty, _, _ => by simp [isTys] at hty
  | .bys, _ :: _, _, _, _, hty, _, _ => by simp [isTys] at hty
  | .sl _, [], _, _, _, hty, _, _ => by simp [isTys] at hty
  | .sl _, _ :: _, _, _, _, hty, _, _ => by simp [isTys] at hty
theorem aha {W : World} {b : Nat} {sp : Nat -> Bool} {hd : Bool} : ∀ (ts : List TypeId) (vs : List Value) (ds : List (DataW H)) (ps : List MemPlace), DataW.TrodAll enc P W b sp hd ts vs ds ps -> vs.length = ts.length /\ ds.length = ts.length
  | [], [], [], _, _ => ⟨rfl, rfl⟩
  | t :: ts, v :: vs, d :: ds, ps, ⟨p, q, _, h2, _⟩ => by have := aha ts vs ds q h2; simp [this]
  | [], [], _ :: _, _, h => h.elim
  | [], _ :: _, _, _, h => h.elim
  | _ :: _, [], _, _, h => h.elim
  | _ :: _, _ :: _, [], _, h => h.elim
theorem aqg (hl : laidOutB P = true) (hz : ∀ t e, t < P.types.size -> P.underlying t = some (.slice e) -> 0 < P.cellsOf e) (hm : mapsRowed P = true) {W W' : World} (hb : Below W.heap.size W W') {sp : Nat -> Bool} {ts : List TypeId} {vs : List Value} {ds : List (DataW H)} {ps : List MemPlace}
    (hrow : ∀ t ∈ ts, t < P.types.size) (h : DataW.TrodAll enc P W 0 (fun _ => true) true ts vs ds ps) (hlt : ∀ x ∈ ps, x.block < W.heap.size) (hs : ∀ x ∈ ps, sp x.block = true) : DataW.TrodAll enc P W' 0 sp true ts vs ds ps := by
  have h' : DataW.TrodAll enc P W' 0 (fun _ => true) true ts vs ds ps := by
    clear hs hrow
    induction ts generalizing vs ds ps with
    | nil => cases vs <;> cases ds <;> first | exact h | exact h.elim
    | cons t ts ih =>
      cases vs with
      | nil => exact h.elim
      | cons v vs =>
        cases ds with
        | nil => exact h.elim
        | cons d ds =>
          obtain ⟨p, q, ⟨n, h1⟩, h2, rfl⟩ := h; exact ⟨p, q, ⟨n, DataW.trod_carry n t _ _ h1 fun x hx => hb.same (hlt x (List.mem_append_left _ hx))⟩, ih h2 fun x hx => hlt x (List.mem_append_right _ hx), rfl⟩
  exact DataW.TrodAll.respare (kids_rows hl hm) hz hrow h' hs
open Go.ChangeShapes Go.WideShapes in
theorem law_contract {f : FuncId} {fn : Func} {s : ChangeSpec} {ty : Ty} {tb : TypeId} {bound : Nat} (hts : isTys P ty fn.params.toList = true) (hrow : ∀ t ∈ fn.params.toList, t < P.types.size)
    (hvars : s.vars = []) (hfn : ∀ ds : List (DataW H), ds.length = fn.params.toList.length -> s.fn H ds = { results := [.lit (.bool true)], args := ds })
    (hres : fn.resultTypes = #[tb]) (hub : P.underlying tb = some .bool) (hl : laidOutB P = true) (hz : ∀ t e, t < P.types.size -> P.underlying t = some (.slice e) -> 0 < P.cellsOf e) (hm : mapsRowed P = true)
    (hc : ∀ y : ty.V, ty.ok y -> ty.bulk y <= bound -> ACalls P f (ty.args y) AHeap.empty fun r _ => r = .raw (.bool true))
    {ap fr ho ag : Bool} (W : World) (base : Nat) (args : Array Value) (ds gs : List (DataW H)) (before : List MemPlace)
    (hval : ∀ (j : Nat) t v, fn.params[j]? = some t -> args[j]? = some v -> Value.okWide P W .any base t v)
    (hW : DataW.Whole enc P fn.params.toList s.vars ap W args.toList ds gs before) (hk : B.all (ds ++ gs) <= bound) :
    Calls P f args W fun e W' => ∃ v, e = .returned v /\ s.post enc P fn ap fr ho ag W args v W' := by
  have hW' := hW; obtain ⟨p, q, hA, hV, rfl, hfz, hnd⟩ := hW; rw [hvars] at hV; obtain ⟨rfl, rfl⟩ := trodVars_none hV; rw [List.append_nil] at hk; have hlt : ∀ x ∈ p ++ [], x.block < W.heap.size := fun x hx => hW'.lt x hx
  obtain ⟨y, h1, h2, h3⟩ := aj1 B ty _ _ _ _ hts (fun j t v ht hv => hval j t v (by simpa using ht) (by simpa using hv)) hA
  refine ((hc y h1 (by omega)).below h3).mono fun e W' ⟨he, hg⟩ => ?_
  subst he; obtain ⟨hlen1, hlen2⟩ := aha _ _ _ _ hA; have hfn' := hfn (ds ++ []) (by simpa using hlen2)
  refine ⟨_, rfl, aqi (pa := p) (pv := []) hW' ?_ ?_ ?_ rfl hg ?_⟩
  · intro b sp hd
    rw [hfn', hres]; exact trodAll_cons_mk (shut_bool hub _) trodAll_mk0
  · intro sp hsp
    rw [hfn']; simp only [List.append_nil]; exact aqg hl hz hm hg hrow hA (fun x hx => hlt x (by simpa using hx)) fun x hx => hsp x (by simpa using hx)
  · intro sp hsp
    rw [hfn', hvars]; rfl
  · exact ok_one hres rfl (okWide_bool_mk hub _)
end
end Go.Am
