/-
  The abstract machine: small lemmas for the walks' side goals. No program in sight.
-/
import Derived.Test.YtbciofnejefkiaaAmNat
import Derived.Laws.Small
import Derived.Laws.Pointers
import Derived.Laws.Cover3
import Derived.Laws.Tables
set_option linter.unusedSimpArgs false
set_option linter.unusedVariables false
namespace Go.Am
open Go
theorem RSub.nil (R : Regs) : RSub [] R := trivial
theorem RSub.cons {i : Nat} {x : AV} {R0 R : Regs} (h : rget R i = x) (h2 : RSub R0 R) : RSub ((i, x) :: R0) R := ⟨h, h2⟩
theorem aax {o sz a b c d : Nat} (h1 : a = c) (h2 : b = d) : AV.vw o sz a b = AV.vw o sz c d := by rw [h1, h2]
theorem adl {k : IntKind} {a b : Nat} (h : a = b) : AV.raw (.int k (a : Int)) = .raw (.int k (b : Int)) := by rw [h]
theorem sd {a b : Nat} (n : Nat) (ha : a < 2 ^ n) (hb : b < 2 ^ n) : a ||| b < 2 ^ n := Nat.or_lt_two_pow ha hb
theorem arm {H : AHeap} {o p : Nat} {x : AO} (h : (H.set o x) p = none) : H p = none := by
  by_cases hp : p = o
  · subst hp; simp [AHeap.set] at h
  · simpa [AHeap.set, hp] using h
section
variable {P : Program} {n : Nat} {K : Exit -> Regs -> AHeap -> Prop} {R : Regs} {H : AHeap} {ops : Array Oper} {rest : List Oper} {ty : TypeId} {d : Tmp} {pos : String} {af : Array Edge}
variable {t e t2 : TypeId} {bytes : Nat} {z : Value} {s x : Operand} {bv : AV} {m sz : Nat}
theorem apb [hT : SliceT P t e 1 bytes z] [h2 : NotIntT P t2] {ob k : Nat} {as bs : List UInt8} (hdn : Nat.blt d n = true) (hs : am R s = .vw ob 1 0 k) (hx : am R x = bv) (hH : H ob = none) (hk0 : k = as.length) (hb : SrcA (H.set ob (.byt as)) bv m 1 (.byt bs))
    (h63 : k + m <= 9223372036854775807) (hby : (k + m) * bytes <= 140737488355328)
    (hk : ∀ o', H o' = none -> AWL P n ops rest K ((d, .vw o' 1 0 (k + m)) :: R) (H.set o' (.byt (as ++ bs)))) :
    AWL P n ops (⟨some d, .call { callee := .builtin .append, args := #[s, x], argTypes := #[t, t2] }, ty, pos, af, none⟩ :: rest) K R (H.set ob (.byt as)) :=
  ale hdn hs hx (arn _ _ _) hk0 hb h63 hby (fun o' ho' => by rw [ars hH]; exact hk o' (arm ho'))
theorem ali [hT : SliceT P t e sz bytes z] [h2 : NotIntT P t2] {ob k : Nat} {as bs : List AV} (hdn : Nat.blt d n = true) (hs : am R s = .vw ob sz 0 k) (hx : am R x = bv) (hH : H ob = none) (hk0 : as.length = k * sz) (hb : SrcA (H.set ob (.cel as)) bv m sz (.cel bs))
    (h63 : k + m <= 9223372036854775807) (hby : (k + m) * bytes <= 140737488355328)
    (hk : ∀ o', H o' = none -> AWL P n ops rest K ((d, .vw o' sz 0 (k + m)) :: R) (H.set o' (.cel (as ++ bs)))) :
    AWL P n ops (⟨some d, .call { callee := .builtin .append, args := #[s, x], argTypes := #[t, t2] }, ty, pos, af, none⟩ :: rest) K R (H.set ob (.cel as)) :=
  ajv hdn hs hx (arn _ _ _) hk0 hb h63 hby (fun o' ho' => by rw [ars hH]; exact hk o' (arm ho'))
theorem Ent.seal_byt1 (i : Nat) {o k : Nat} {bs : List UInt8} (hi : rget R i = .vw o 1 0 k) (hk : k = bs.length) (ho : H o = none) : Ent R (H.set o (.byt bs)) ((i, .bys bs) :: R) H := by
  subst hk; have := Ent.seal_byt (R := R) hi (arn H o (.byt bs)); rwa [ars ho] at this
theorem Ent.seal_cel1 (i : Nat) {o m : Nat} {xs : List AV} (hi : rget R i = .vw o sz 0 m) (hl : xs.length = m * sz) (ho : H o = none) : Ent R (H.set o (.cel xs)) ((i, .sls m xs) :: R) H := by
  have := Ent.seal_cel (R := R) hi (arn H o (.cel xs)) hl; rwa [ars ho] at this
end
class BuildT (P : Program) (t : TypeId) (pl : outParam (List (Nat × Nat))) (zs : outParam (List Value)) : Prop where
  z : (P.info? t).bind (fun i => i.zero.map fun z => z.cells.toList) = some zs
  p : (match P.underlying t with | some (.struct fs) => fs.toList.mapM (fun f => (P.info? f.type).map fun i => (f.offset, i.size)) | _ => none) = some pl
theorem BuildT.built {P : Program} {t : TypeId} {pl : List (Nat × Nat)} {zs : List Value} (h : BuildT P t pl zs) {parts : List (Nat × Value)} {c : Array Value}
    (hf : Instr.fill (fun i => pl[i]?) zs.toArray parts = some c) : P.built t parts = some c := by
  have hz := h.z; have hp := h.p; unfold Program.built
  cases hi : P.info? t with
  | none => simp [hi] at hz
  | some it =>
    cases hu : P.underlying t with
    | none => simp [hu] at hp
    | some ud =>
      cases ud <;> try (simp [hu] at hp; done)
      rename_i fields
      simp only [hu] at hp; simp only [hi, Option.bind_some] at hz
      cases hzz : it.zero with
      | none => simp [hzz] at hz
      | some z =>
        simp [hzz] at hz
        subst hz; simp only [hp, hzz]; simpa using hf
def afill (pl : List (Nat × Nat)) : List AV -> List (Nat × AV) -> Option (List AV)
  | cs, [] => some cs
  | cs, (i, x) :: r =>
    match pl[i]? with
    | none => none
    | some (off, size) =>
      match x.parts.all AV.one1, Nat.beq x.parts.length size, Nat.ble (off + size) cs.length with
      | true, true, true => afill pl (putAt cs off x.parts) r
      | _, _, _ => none
theorem alb {g : Gh} {xs ys : List AV} {c d : List Value} {k : Nat} (hx : RepL g xs c) (hy : RepL g ys d) (hk : k + ys.length <= xs.length) :
    RepL g (putAt xs k ys) (c.take k ++ d ++ c.drop (k + d.length)) := by
  have h1 := pf _ _ hx; have h2 := pf _ _ hy; rw [ny] at *; refine ⟨by simp [putAt]; omega, fun i x hi => ?_⟩
  simp only [putAt, List.append_assoc] at hi; rw [List.append_assoc]; by_cases c1 : i < k
  · rw [List.getElem?_append_left (by simp; omega), List.getElem?_take, if_pos c1] at hi
    rw [List.getElem?_append_left (by simp; omega), List.getElem?_take, if_pos c1]
    exact hx.2 i x hi
  · have l1 : (xs.take k).length = k := by simp; omega
    have l2 : (c.take k).length = k := by simp; omega
    rw [List.getElem?_append_right (by omega), l1] at hi
    rw [List.getElem?_append_right (by omega), l2]
    by_cases c2 : i - k < ys.length
    · rw [List.getElem?_append_left c2] at hi
      rw [List.getElem?_append_left (by omega)]
      exact hy.2 _ x hi
    · rw [List.getElem?_append_right (by omega), List.getElem?_drop] at hi
      rw [List.getElem?_append_right (by omega), List.getElem?_drop, h2]
      exact hx.2 _ x hi
theorem arf (v : Value) (off : Nat) (cs : Array Value) (h : off + v.cells.size <= cs.size) :
    (v.cells.zipIdx.foldl (fun cs x => cs.setIfInBounds (off + x.2) x.1) cs).toList = cs.toList.take off ++ v.cells.toList ++ cs.toList.drop (off + v.cells.toList.length) := by
  have hfe : v.cells.zipIdx.foldl (fun cs x => cs.setIfInBounds (off + x.2) x.1) cs = (v.cells.toList.zipIdx 0).foldl (fun (cs : Array Value) (p : Value × Nat) => cs.setIfInBounds (off + p.2) p.1) cs := by
    rw [<- Array.foldl_toList, Array.toList_zipIdx]
  obtain ⟨f1, f2, f3⟩ := ac0 off v.cells.toList 0 cs (by simpa using h)
  rw [hfe]; generalize (v.cells.toList.zipIdx 0).foldl (fun (cs : Array Value) (p : Value × Nat) => cs.setIfInBounds (off + p.2) p.1) cs = cs' at f1 f2 f3
  have hl : cs.toList.length = cs.size := by simp
  have hv : v.cells.toList.length = v.cells.size := by simp
  apply List.ext_getElem?; intro i; rw [Array.getElem?_toList, List.append_assoc]; have l2 : (cs.toList.take off).length = off := by simp; omega
  by_cases c1 : i < off
  · rw [List.getElem?_append_left (by omega), List.getElem?_take, if_pos c1, f2 i (.inl (by omega)), Array.getElem?_toList]
  · rw [List.getElem?_append_right (by omega), l2]
    by_cases c2 : i - off < v.cells.toList.length
    · rw [List.getElem?_append_left c2, <- f3 _ c2]
      congr 1
      omega
    · rw [List.getElem?_append_right (by omega), List.getElem?_drop, f2 i (.inr (by omega)), Array.getElem?_toList]
      congr 1
      omega
def PRel (g : Gh) : List (Nat × AV) -> List (Nat × Value) -> Prop
  | [], [] => True
  | (i, x) :: ps, (j, v) :: vs => i = j /\ Rep g x v /\ PRel g ps vs
  | _, _ => False
theorem aj5 {g : Gh} (pl : List (Nat × Nat)) : ∀ (ps : List (Nat × AV)) (vs : List (Nat × Value)) (cs cs' : List AV) (c : Array Value), PRel g ps vs -> RepL g cs c.toList -> afill pl cs ps = some cs' ->
    ∃ c', Instr.fill (fun i => pl[i]?) c vs = some c' /\ RepL g cs' c'.toList
  | [], [], cs, cs', c, _, hr, h => by simp only [afill, Option.some.injEq] at h; subst h; exact ⟨c, by simp [Instr.fill], hr⟩
  | (i, x) :: ps, (j, v) :: vs, cs, cs', c, hp, hr, h => by
    simp only [PRel] at hp; obtain ⟨rfl, hx, hp⟩ := hp; simp only [afill] at h; split at h
    · cases h
    · rename_i off size hpl
      split at h
      · rename_i e1 e2 e3
        have e2' := Nat.eq_of_beq_eq_true e2; have e3' := Nat.le_of_ble_eq_true e3; have hv := t9 hx e1; have l1 : v.cells.size = x.parts.length := by simpa using pf _ _ hv
        have l2 : c.size = cs.length := by simpa using pf _ _ hr
        have l3 : off + x.parts.length <= cs.length := by rw [e2']; exact e3'
        have hput := alb hr hv l3; rw [<- arf v off c (by rw [l1, l2]; exact l3)] at hput
        obtain ⟨c', q1, q2⟩ := aj5 pl ps vs _ cs' _ hp hput h; refine ⟨c', ?_, q2⟩; simp only [Instr.fill, hpl]; rw [if_neg (by simp [l1, e2', l2]; exact e3')]
        exact q1
      · cases h
  | [], _ :: _, _, _, _, hp, _, _ => by simp [PRel] at hp
  | _ :: _, [], _, _, _, hp, _, _ => by simp [PRel] at hp
section
variable {P : Program} {n : Nat} {R : Regs} {H : AHeap} {ty : TypeId}
theorem afq {g : Gh} {a : Act} {w : World} (hp : Pre n R H g a w) : ∀ l : List (Nat × Operand), PRel g (l.map fun p => (p.1, am R p.2)) (l.map fun p => (p.1, a.eval p.2))
  | [] => by simp [PRel]
  | p :: l => by simp only [List.map_cons, PRel]; exact ⟨trivial, rv hp rfl, afq hp l⟩
theorem aku {t : TypeId} {pl : List (Nat × Nat)} {zs : List Value} [hB : BuildT P t pl zs] {parts : Array (Nat × Operand)} {xs : List AV}
    (hx : afill pl (zs.map .raw) (parts.toList.map fun p => (p.1, am R p.2)) = some xs) : Stp P n (.build t parts) ty R H (.agg xs) :=
  du fun o ho ht g a w hp => by
    obtain ⟨c, q1, q2⟩ := aj5 (g := g) pl _ _ _ _ zs.toArray (afq hp parts.toList) (by simpa using yr zs) hx
    refine ⟨.agg c, ?_, by simp only [Rep]; exact ⟨c, rfl, q2⟩⟩
    have hb := hB.built q1; have hr : (Instr.build t (parts.map fun x => (x.1, a.eval x.2))).run P w = .ok (.agg c) w := run_build w t _ c (by simpa using hb)
    simp [execOp, ho, hr]
theorem Ent.weak {o : Nat} {xs ys : List AV} (hl : ys.length = xs.length) (hw : ∀ g c k, RepAt g xs c k -> RepAt g ys c k) : Ent R (H.set o (.cel xs)) R (H.set o (.cel ys)) := fun g t w h1 h2 => by
  refine ⟨g, .refl g, h1, ?_⟩; have hs : H.set o (.cel ys) = (H.set o (.cel xs)).set o (.cel ys) := (AHeap.set_set _ _ _ _).symm; rw [hs]; rcases h2.objs o _ (arn _ _ _) with ⟨hv, hlo⟩ | ⟨l, c, e, fz, hlo, k1, k2, k3, k4⟩ | ⟨l, es, es', cl, hx, _⟩ | ⟨_, _, _, _, hq⟩
  · refine h2.void hlo ?_
    simp only [AO.void] at hv ⊢; subst hv; simpa using hl
  · exact h2.write (w' := w) ⟨rfl, rfl, rfl⟩ (arn _ _ _) hlo (fun _ _ => rfl) k1 k2 k3 ⟨by have := k4.1; omega, hw _ _ _ k4.2⟩
  · cases hx
  · obtain ⟨_, _, he⟩ := hq.mp; cases he
end
def W (x y : AV) : Prop := ∀ g v, Rep g x v -> Rep g y v
def WL (xs ys : List AV) : Prop := ∀ g l, RepL g xs l -> RepL g ys l
theorem W.of {x y : AV} (h : x = y) : W x y := fun _ _ hr => h ▸ hr
theorem W.int {x : AV} {k : IntKind} {za : Int} {a : Nat} [na : NatOf za a] (h : x = .raw (.int k za)) : W x (.raw (.int k (a : Int))) := W.of (by rw [h, na.h])
theorem W.nilb {x : AV} (h : x = .raw (.slice none 0 0)) : W x (.bys []) := fun g v hr => by
  subst h; simp only [Rep] at hr ⊢; subst hr; exact .inl ⟨trivial, _, _, rfl⟩
theorem W.nils {x : AV} (h : x = .raw (.slice none 0 0)) : W x (.sls 0 []) := fun g v hr => by
  subst h; simp only [Rep] at hr ⊢; subst hr; exact .inl ⟨trivial, trivial, _, _, rfl⟩
theorem W.slsx {x : AV} {m : Nat} {xs : List AV} (h : x = .slsx m xs) : W x (.sls m xs) := fun g v hr => by
  subst h; simp only [Rep] at hr ⊢; rcases hr with ⟨e, e', a, rfl⟩ | ⟨b, off, c, e, fz, rfl, hrest⟩
  · exact .inl ⟨e, e', _, _, rfl⟩
  · exact .inr ⟨b, off, _, c, e, fz, rfl, Nat.le_refl _, hrest⟩
theorem WL.nil : WL [] [] := fun _ _ h => h
theorem WL.cons {x y : AV} {xs ys : List AV} (h : W x y) (hs : WL xs ys) : WL (x :: xs) (y :: ys) := fun g l hr => by
  simp only [RepL] at hr ⊢; obtain ⟨u, us, rfl, h1, h2⟩ := hr; exact ⟨u, us, rfl, h g u h1, hs g us h2⟩
section
variable {P : Program} {n : Nat} {K : Exit -> Regs -> AHeap -> Prop} {R : Regs} {H : AHeap} {ops : Array Oper} {rest : List Oper} {ty : TypeId} {d : Tmp} {pos : String} {af : Array Edge}
theorem ACalls.weak {f : FuncId} {xs ys : List AV} {Kc : AV -> AHeap -> Prop} (h : WL xs ys) (hc : ACalls P f ys H Kc) : ACalls P f xs H Kc := fun g w vals hl hs => hc g w vals (h g _ hl) hs
theorem ak6 {f : FuncId} [hF : FuncT P f] {args : Array Operand} {ats : Array TypeId} {ys : List AV} {Kc : AV -> AHeap -> Prop} (hdn : Nat.blt d n = true) (hw : WL (args.toList.map (am R)) ys)
    (hc : ACalls P f ys H Kc) (hk : ∀ r H', Kc r H' -> AWL P n ops rest K ((d, r) :: R) H') :
    AWL P n ops (⟨some d, .call { callee := .value (.func f), args := args, argTypes := ats }, ty, pos, af, none⟩ :: rest) K R H := amw hdn rfl (hc.weak hw) hk
end
section
variable {P : Program} {n : Nat} {K : Exit -> Regs -> AHeap -> Prop} {R : Regs} {H : AHeap} {ops : Array Oper} {rest : List Oper} {ty : TypeId} {d : Tmp} {pos : String} {af : Array Edge}
theorem ano {op : Op} {j dj : Nat} {p : Prop} [inst : Decidable p] (hj : (ops[j]?).bind (·.dst) = some dj) (hb : rget R dj = .raw (.bool (@decide p inst))) (hdn : Nat.blt d n = true)
    (ht : p -> AWL P n ops (⟨some d, op, ty, pos, af, none⟩ :: rest) K ((dj, .raw (.bool true)) :: R) H) (hf : ¬ p -> AWL P n ops rest K ((d, .raw undef) :: (dj, .raw (.bool false)) :: R) H) :
    AWL P n ops (⟨some d, op, ty, pos, af, some (j, true)⟩ :: rest) K R H :=
  ajb hb (fun h => yt hj (by simp [rget]) hdn (ht h)) (fun h => ade hj (by simp [rget]) hdn (hf h))
theorem afn {op : Op} {j dj : Nat} {p : Prop} [inst : Decidable p] (hj : (ops[j]?).bind (·.dst) = some dj) (hb : rget R dj = .raw (.bool (@decide p inst))) (hdn : Nat.blt d n = true)
    (ht : p -> AWL P n ops rest K ((d, .raw undef) :: (dj, .raw (.bool true)) :: R) H) (hf : ¬ p -> AWL P n ops (⟨some d, op, ty, pos, af, none⟩ :: rest) K ((dj, .raw (.bool false)) :: R) H) :
    AWL P n ops (⟨some d, op, ty, pos, af, some (j, false)⟩ :: rest) K R H :=
  ajb hb (fun h => ade hj (by simp [rget]) hdn (ht h)) (fun h => yt hj (by simp [rget]) hdn (hf h))
theorem ara {op : Op} {j dj : Nat} {b : Bool} (hj : (ops[j]?).bind (·.dst) = some dj) (hb : rget R dj = .raw (.bool b)) (hdn : Nat.blt d n = true)
    (ht : b = true -> AWL P n ops rest K ((d, .raw undef) :: (dj, .raw (.bool true)) :: R) H) (hf : b = false -> AWL P n ops (⟨some d, op, ty, pos, af, none⟩ :: rest) K ((dj, .raw (.bool false)) :: R) H) :
    AWL P n ops (⟨some d, op, ty, pos, af, some (j, false)⟩ :: rest) K R H :=
  afn (p := b = true) hj (by rw [hb]; simp) hdn ht (fun h => hf (by simpa using h))
def u64 (z : Int) : Nat := (z % 18446744073709551616).toNat
theorem aav (z : Int) : u64 z < 18446744073709551616 := by unfold u64; omega
theorem amr (z : Int) : IntKind.wrap .u64 z = (u64 z : Int) := by
  have h : IntKind.wrap .u64 z = z % 18446744073709551616 := by simp [IntKind.wrap, IntKind.bits, IntKind.signed]
  rw [h, u64, Int.toNat_of_nonneg (by omega)]
theorem ajm {s t : TypeId} {x : Operand} {k : IntKind} {a : Int} [hT : IntT P t .u64] [hS : KnownT P s] (hx : am R x = .raw (.int k a)) : Stp P n (.convert s t x) ty R H (.raw (.int .u64 ((u64 a : Nat) : Int))) := by
  rw [<- amr]; exact wy hx
end
theorem ACalls.conv {P : Program} {f : FuncId} {args : List AV} {H : AHeap} {Kc Kc' : AV -> AHeap -> Prop} (h : ACalls P f args H Kc)
    (hk : ∀ r H', Kc r H' -> ∃ r' H'', Kc' r' H'' /\ Ent [(0, r)] H' [(0, r')] H'') : ACalls P f args H Kc' := fun g w vals h1 h2 => by
  refine (h g w vals h1 h2).mono ?_; rintro e w' ⟨v, r, H', g', e1, e2, e3, e4, e5⟩; obtain ⟨r', H'', k1, k2⟩ := hk r H' e5
  have hreg : RegRel g' [(0, r)] #[v] := fun i => by
    cases i with
    | zero => simpa [rget] using e3
    | succ i => simp [rget, Rep]
  obtain ⟨g'', q1, q2, q3⟩ := k2 g' #[v] w' hreg e4; have := q2 0; simp [rget] at this
  exact ⟨v, r', H'', g'', e1, e2.trans q1, this, q3, k1⟩
theorem ACalls.seal {P : Program} {f : FuncId} {args : List AV} {H : AHeap} {bs : List UInt8}
    (h : ACalls P f args H fun r H' => ∃ o, H o = none /\ r = .vw o 1 0 bs.length /\ H' = H.set o (.byt bs)) : ACalls P f args H fun r H' => r = .bys bs /\ H' = H :=
  h.conv fun r H' ⟨o, ho, hr, hH⟩ => ⟨.bys bs, H, ⟨rfl, rfl⟩, by subst hr hH; exact (Ent.seal_byt1 0 rfl rfl ho).trans (Ent.sub H (RSub.cons rfl (RSub.nil _)))⟩
class PtrT (P : Program) (t : TypeId) : Prop where
  h : P.underlying t = some (.pointer (P.pointee t))
class BoolT (P : Program) (t : TypeId) : Prop where
  h : P.underlying t = some .bool
section
variable {P : Program} {n : Nat} {R : Regs} {H : AHeap} {ty : TypeId} {t t2 : TypeId} {x y : Operand}
theorem xq [hT : PtrT P t] {o k : Nat} (hx : am R x = .ptr o k) (hy : am R y = .raw (.pointer none)) : Stp P n (.binOp .eql t x y t2) ty R H (.raw (.bool false)) :=
  du fun o ho ht g a w hp => by
    have h1 := rv hp hx; have h2 := rv hp hy; simp only [Rep] at h1 h2; obtain ⟨l, _, h1⟩ := h1; exact ⟨.bool false, by simp [execOp, ho, h1, h2, eqGuard_at_pointer, run_eql_pointer_nil w t _ hT.h], by simp only [Rep]⟩
theorem ahr [hT : PtrT P t] {o k : Nat} (hx : am R x = .ptr o k) (hy : am R y = .raw (.pointer none)) : Stp P n (.binOp .neq t x y t2) ty R H (.raw (.bool true)) :=
  du fun o ho ht g a w hp => by
    have h1 := rv hp hx; have h2 := rv hp hy; simp only [Rep] at h1 h2; obtain ⟨l, _, h1⟩ := h1; exact ⟨.bool true, by simp [execOp, ho, h1, h2, eqGuard_at_pointer, run_neq_pointer_nil w t _ hT.h], by simp only [Rep]⟩
end
theorem arl {H : AHeap} {a b : Nat} {x y : AO} (h1 : b ≠ a) (h2 : H b = some y) : (H.set a x) b = some y := by simpa [AHeap.set, h1] using h2
theorem arp {H : AHeap} {a b : Nat} {x : AO} (h : (H.set a x) b = none) : b ≠ a := fun e => by subst e; simp [AHeap.set] at h
end Go.Am
