/-
  The abstract machine: slices.Sorted(maps.Keys(m)) by the library's contracts. No program in sight.
-/
import Derived.Test.YtkoplehddnhajaaAmMap
import Derived.Maps.Own
import Derived.Sort.KeysCollected
import Derived.Sort.OwnSorted
import Derived.CallsIn
namespace Go.Am
open Go Go.RowKit Go.MapKept Go.Maps Go.Proofs
open Go.WideElems (Fit rd rg pl)

def MS.keys (es : MS) : List (List UInt8) := es.map Prod.fst
/-- A map's element, whatever it is. -/
abbrev anyR : Value → Option (DataW Unit × List MemPlace) := fun _ => some (.nil, [])

theorem insert_perm {H : Type} (x : Lit × DataW H) : ∀ l : List (Lit × DataW H), (DataW.insert x l).Perm (x :: l)
  | [] => List.Perm.refl _
  | y :: r => by
    unfold DataW.insert
    split
    · exact List.Perm.refl _
    · exact ((insert_perm x r).cons y).trans (List.Perm.swap x y r)
theorem sorted_perm {H : Type} : ∀ l : List (Lit × DataW H), (l.foldr DataW.insert []).Perm l
  | [] => List.Perm.refl _
  | x :: r => by
    rw [List.foldr_cons]
    exact (insert_perm x _).trans ((sorted_perm r).cons x)
theorem keyOf_kS {P : Program} {k : TypeId} (hk : P.underlying k = some .string) {a : List UInt8} (ha : a.length ≤ maxLen) : keyOf P k (kS a) = some (.string a) := by
  have hs : (⟨a.toArray⟩ : ByteArray).size ≤ maxLen := by show a.toArray.size ≤ maxLen; simpa using ha
  simp [keyOf, hk, mapKey, hs]
theorem rd_kS {P : Program} {k : TypeId} (hk : P.underlying k = some .string) {a : List UInt8} (ha : a.length ≤ maxLen) {m : MapEntry} (hm : m.key = kS a) : rd P k anyR m = some (.string a, .nil) := by
  unfold rd
  rw [hm, keyOf_kS hk ha]
  rfl
theorem repM_reads {P : Program} {k : TypeId} (hk : P.underlying k = some .string) {g : Gh} : ∀ (es : MS) (l : List MapEntry), RepM g es l → (∀ s ∈ es.keys, s.length ≤ maxLen) →
    (∀ x ∈ l, ∃ y, rd P k anyR x = some y) ∧ (l.map (rg P k anyR)).map (fun p => strOf p.1) = es.keys ∧ l.map (·.key) = es.keys.map kS
  | [], l, h, _ => by rw [repM_nil] at h; subst h; exact ⟨fun x h => (by cases h), rfl, rfl⟩
  | (a, v) :: es, l, h, hk2 => by
    obtain ⟨m, ms, rfl, h1, h2, h3⟩ := repM_cons.1 h
    obtain ⟨i1, i2, i3⟩ := repM_reads hk es ms h3 (fun s hs => hk2 s (List.mem_cons_of_mem _ hs))
    have ha : a.length ≤ maxLen := hk2 a (List.mem_cons_self ..)
    have hr := rd_kS (P := P) hk ha h1
    refine ⟨?_, ?_, ?_⟩
    · intro x hx
      rcases List.mem_cons.1 hx with rfl | hx
      · exact ⟨_, hr⟩
      · exact i1 x hx
    · rw [List.map_cons, List.map_cons, i2]
      show strOf (rg P k anyR m).1 :: _ = a :: MS.keys es
      rw [Go.WideElems.rg_of hr]
      rfl
    · rw [List.map_cons, i3, h1]; rfl
theorem kS_inj {a b : List UInt8} (h : kS a = kS b) : a = b := by simpa [kS] using h

/-- A live map, in the library's words. -/
theorem repO_owns {P : Program} {k : TypeId} (hk : P.underlying k = some .string) {g : Gh} {w : World} {o : Nat} {es : MS} (h : RepO g w.heap o es.ao) (hnd : es.keys.Nodup) (hlen : es.length ≤ maxLen) (hks : ∀ s ∈ es.keys, s.length ≤ maxLen) :
    ∃ l D, g.loc o = some l ∧ w.ownsMap (H := Unit) P k anyR l.blk es.length D ∧ (strKeys D).Perm es.keys ∧ Maps.size D = es.length := by
  obtain ⟨l, es', clock, q1, q2, q3, q4, q5⟩ := repO_map h
  obtain ⟨r1, r2, r3⟩ := repM_reads (P := P) hk es es'.toList q3 hks
  have hsz : es'.toList.length = es.length := by
    have := congrArg List.length r3
    simpa [MS.keys] using this
  have hsz' : es'.size = es.length := by rw [← hsz, Array.length_toList]
  refine ⟨l, .map ((es'.toList.map (rg P k anyR)).foldr DataW.insert []), q1, ⟨es', clock, q2, ⟨by omega, ⟨fun x hx => q4 x (by simpa using hx), q5, ?_⟩, r1⟩, by omega, rfl⟩, ?_, ?_⟩
  · rw [r3]
    exact (List.pairwise_map.2 (hnd.imp fun hne e => hne (kS_inj e)))
  · show (((es'.toList.map (rg P k anyR)).foldr DataW.insert []).map fun p => strOf p.1).Perm es.keys
    rw [← r2]
    exact (sorted_perm _).map _
  · show ((es'.toList.map (rg P k anyR)).foldr DataW.insert []).length = es.length
    rw [(sorted_perm _).length_eq, List.length_map, hsz]

/-- Nothing that lay there has turned. -/
theorem Sim.grown {g : Gh} {H : AHeap} {w w' : World} (h : Sim g H w) (hb : Below w.heap.size w w') : Sim g H w' := by
  refine ⟨hb.os.trans h.os, hb.tape.trans h.tape, hb.output.trans h.output, ?_, ?_, h.inj, h.apart, h.fin⟩
  · intro b o hbo
    have := h.sealed b o hbo
    rw [hb.block b (Array.getElem?_eq_some_iff.1 this).1]
    exact this
  · intro o x hx
    have hr := h.objs o x hx
    exact hr.move (.refl g) rfl fun l hl => hb.block _ (hr.blk_lt hl)
theorem repAt_strs {g : Gh} {ss : List (List UInt8)} {c : Array Value} (h : ∀ (i : Nat) (s : List UInt8), ss[i]? = some s → c[i]? = some (encStr s)) : RepAt g (ss.map .str) c 0 := by
  rw [repAt_iff]
  intro i x hi
  rw [List.getElem?_map] at hi
  cases hs : ss[i]? with
  | none => rw [hs] at hi; cases hi
  | some s =>
    rw [hs] at hi
    cases hi
    refine ⟨encStr s, by rw [Nat.zero_add]; exact h i s hs, rfl, by simp only [Rep]⟩
/-- A new slice of texts is an object. -/
theorem Sim.row {g : Gh} {H : AHeap} {w w' : World} (h : Sim g H w) (hb : Below w.heap.size w w') {et : TypeId} {v : Value} {ss : List (List UInt8)} (hr : w'.ownsRow w.heap.size et 1 v ss.length (ss.map encStr)) :
    ∃ g' oS, g.le g' ∧ H oS = none ∧ Rep g' (.vw oS 1 0 ss.length) v ∧ Sim g' (H.set oS (.cel (ss.map .str))) w' := by
  have h' := h.grown hb
  obtain ⟨oS, hoS, hl⟩ := h'.fresh
  rcases hr.2 with ⟨rfl, h0⟩ | ⟨gb, cap, cur, rfl, hbase, hgb, r1, r2, r3, r4⟩
  · have : ss = [] := List.eq_nil_of_length_eq_zero h0
    subst this
    refine ⟨g, oS, .refl g, hoS, ?_, h'.void hl rfl⟩
    simp only [Rep]
    exact .inr ⟨rfl, _, rfl⟩
  · have hsm : Same w' w' := ⟨rfl, rfl, rfl⟩
    have hsz := r3
    have hb0 : g.h gb = none := by
      cases hn : g.h gb with
      | none => rfl
      | some ob => have := (Array.getElem?_eq_some_iff.1 (h.sealed _ _ hn)).1; omega
    have hfree : ∀ o x l, H o = some x → g.loc o = some l → l.blk ≠ gb := fun o x l h1 h2 e => by
      have := (h.objs o x h1).blk_lt h2
      omega
    have hc : ∀ (i : Nat) (s : List UInt8), ss[i]? = some s → cur[i]? = some (encStr s) := fun i s hs => by
      have hlt := (List.getElem?_eq_some_iff.1 hs).1
      have h1 : (cur.toList.take (ss.length * 1))[i]? = (ss.map encStr)[i]? := by rw [r4]
      rw [List.getElem?_take_of_lt (by omega)] at h1
      rw [← Array.getElem?_toList, h1, List.getElem?_map, hs]
      rfl
    refine ⟨g.at oS ⟨gb, 0, cur.size⟩, oS, g.le_at hl _, hoS, ?_, h'.place hsm hb0 hfree (fun k _ => rfl) hgb (fun i _ hh => by have := hh.2; omega) hl ⟨by simp; omega, repAt_strs hc⟩⟩
    simp only [Rep]
    exact .inl ⟨_, cap, Gh.at_self _ _ _, rfl, r1, by simp; omega⟩

section
variable {P : Program} {n : Nat} {K : Exit → Regs → AHeap → Prop} {R : Regs} {H : AHeap} {ops : Array Oper} {rest : List Oper}
/-- maps.Keys, and slices.Sorted at what it handed back. -/
abbrev KeysC (P : Program) (fK fI : FuncId) (tb : TypeId) : Prop :=
  ∀ (mb : Option Nat) (W : World), CallsIn Fence.wide 5 P fK #[.map mb] W fun e w' => e = .returned (.func (.func fI) #[] #[.pointer (some ⟨W.heap.size, 0, none⟩)]) ∧ w' = W.alloc (.cells #[.map mb] tb)
abbrev SortedC (P : Program) (fS fI : FuncId) (tb kt : TypeId) : Prop :=
  ∀ (b nn : Nat) (D0 : DataW Unit) (R : Value → Option (DataW Unit × List MemPlace)) (w : World), w.ownsMap P kt R b nn D0 → Maps.size D0 ≤ maxLen → Maps.size D0 * 16 ≤ 140737488355328 →
    CallsIn Fence.wide 5 P fS #[.func (.func fI) #[] #[.pointer (some ⟨w.heap.size, 0, none⟩)]] (w.alloc (.cells #[.map (some b)] tb)) fun e w' => ∃ (v : Value) (ss : List (List UInt8)), e = .returned v ∧ ss.Perm (strKeys D0) ∧
      w'.ownsRow (w.alloc (.cells #[.map (some b)] tb)).heap.size kt 1 v ss.length ((ss.mergeSort (fun x y => decide (x ≤ y))).map encStr) ∧ (v = .slice none 0 0 ↔ ss = []) ∧ Below (w.alloc (.cells #[.map (some b)] tb)).heap.size (w.alloc (.cells #[.map (some b)] tb)) w'
theorem awl_sortedKeys {fK fS fI : FuncId} {tb kt ty1 ty2 : TypeId} {pos1 pos2 : String} {af1 af2 : Array Edge} {at1 at2 : Array TypeId} [hK : FuncT P fK] [hS : FuncT P fS] {m : Operand} {d1 d2 : Tmp} {om : Nat} {es : MS}
    (hkt : P.underlying kt = some .string) (cK : KeysC P fK fI tb) (cS : SortedC P fS fI tb kt)
    (hd1 : Nat.blt d1 n = true) (hd2 : Nat.blt d2 n = true) (hm : reval R m = .mp om) (hH : H om = some es.ao) (hnd : es.keys.Nodup) (hlen : es.length ≤ 1000000) (hks : ∀ s ∈ es.keys, s.length ≤ maxLen)
    (hk : ∀ (oS : Nat) (ss : List (List UInt8)), H oS = none → ss.Perm es.keys → ss.Pairwise (fun x y => x ≤ y) → AWL P n ops rest K ((d2, .vw oS 1 0 ss.length) :: (d1, .unk) :: R) (H.set oS (.cel (ss.map .str)))) :
    AWL P n ops (⟨some d1, .call { callee := .value (.func fK), args := #[m], argTypes := at1 }, ty1, pos1, af1, none⟩ :: ⟨some d2, .call { callee := .value (.func fS), args := #[.tmp d1], argTypes := at2 }, ty2, pos2, af2, none⟩ :: rest) K R H := fun g a w hp => by
  obtain ⟨l0, hl0, he⟩ := loc_of_mp (hm ▸ rv hp (x := m) rfl)
  obtain ⟨l, D, q1, q2, q3, q4⟩ := repO_owns (P := P) hkt (hp.sim.objs om _ hH) hnd (by simp only [maxLen]; omega) hks
  rw [hl0] at q1; cases q1
  refine wpList_plain rfl fun K1 hK1 => ?_
  have hx1 : (execOp a.eval ⟨some d1, .call { callee := .value (.func fK), args := #[m], argTypes := at1 }, ty1, pos1, af1, none⟩).run P w = .ok (.enter fK #[.map (some l0.blk)]) w := by
    have hf : a.eval (.func fK) = .func (.func fK) #[] #[] := rfl
    simp [execOp, resolve, hf, Deferred.ofValue, invoke, hK.h, he]
  rw [Oper.wp, hx1, Oper.upon_enter]
  refine (callsIn_wide.1 (cK (some l0.blk) w)).mono ?_
  rintro e w1 ⟨rfl, rfl⟩
  refine hK1 _ _ ?_
  have hs1 : Sim g H (w.alloc (.cells #[.map (some l0.blk)] tb)) := hp.sim.grown ((Below.refl _ w).alloc (Nat.le_refl _) _)
  have hp1 : Pre n ((d1, .unk) :: R) H g (a.put (some d1) (.func (.func fI) #[] #[.pointer (some ⟨w.heap.size, 0, none⟩)])) (w.alloc (.cells #[.map (some l0.blk)] tb)) := hp.put (.refl g) hd1 (by simp only [Rep]) hs1
  have hev : (a.put (some d1) (.func (.func fI) #[] #[.pointer (some ⟨w.heap.size, 0, none⟩)])).eval (.tmp d1) = .func (.func fI) #[] #[.pointer (some ⟨w.heap.size, 0, none⟩)] := by
    have hlt : d1 < a.tmps.size := by rw [hp.size]; exact Nat.le_of_ble_eq_true hd1
    simp [Act.put, Act.eval, Array.getD_eq_getD_getElem?, hlt]
  refine wpList_plain rfl fun K2 hK2 => ?_
  have hx2 : (execOp (a.put (some d1) (.func (.func fI) #[] #[.pointer (some ⟨w.heap.size, 0, none⟩)])).eval ⟨some d2, .call { callee := .value (.func fS), args := #[.tmp d1], argTypes := at2 }, ty2, pos2, af2, none⟩).run P (w.alloc (.cells #[.map (some l0.blk)] tb)) = .ok (.enter fS #[.func (.func fI) #[] #[.pointer (some ⟨w.heap.size, 0, none⟩)]]) (w.alloc (.cells #[.map (some l0.blk)] tb)) := by
    have hf : (a.put (some d1) (.func (.func fI) #[] #[.pointer (some ⟨w.heap.size, 0, none⟩)])).eval (.func fS) = .func (.func fS) #[] #[] := rfl
    simp [execOp, resolve, hf, Deferred.ofValue, invoke, hev, hS.h]
  rw [Oper.wp, hx2, Oper.upon_enter]
  refine (callsIn_wide.1 (cS l0.blk es.length D anyR w q2 (by simp only [maxLen]; omega) (by omega))).mono ?_
  rintro e w2 ⟨v, ss, rfl, hperm, hrow, hnil, hb⟩
  have hrow' : w2.ownsRow (w.alloc (.cells #[.map (some l0.blk)] tb)).heap.size kt 1 v (ss.mergeSort fun x y => decide (x ≤ y)).length ((ss.mergeSort fun x y => decide (x ≤ y)).map encStr) := by rw [List.length_mergeSort]; exact hrow
  obtain ⟨g', oS, hle, hoS, hrep, hsim⟩ := hs1.row hb hrow'
  have hpm : (ss.mergeSort fun x y => decide (x ≤ y)).Perm es.keys := ((List.mergeSort_perm _ _).trans hperm).trans q3
  have hsrt : (ss.mergeSort fun x y => decide (x ≤ y)).Pairwise fun x y => x ≤ y :=
    (List.pairwise_mergeSort (le := fun x y => decide (x ≤ y)) (fun a b c h1 h2 => by simp only [decide_eq_true_eq] at *; exact List.le_trans h1 h2) (fun a b => by simp only [Bool.or_eq_true, decide_eq_true_eq]; exact List.le_total a b) ss).imp fun h => by simpa using h
  exact hK2 _ _ (wpList_mono2 (fun _ _ _ hq => hq.le hle) _ _ _ (hk oS _ hoS hpm hsrt g' _ w2 (hp1.put hle hd2 hrep hsim)))
end
end Go.Am
