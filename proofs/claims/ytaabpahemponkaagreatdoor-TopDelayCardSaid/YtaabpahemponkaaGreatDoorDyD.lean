/-
  The executor is right about operations, second part.
-/
import Derived.Test.YtaabpahemponkaaGreatDoorDyC
import Derived.Laws.Tables
set_option linter.unusedVariables false
set_option linter.unusedSimpArgs false
namespace Go.Ex
open Go Go.Am
section
variable {ρ : Type} {Good : ρ → Prop} {P : Program} {n : Nat}
variable {E : Env ρ} {o : Oper} (hb : ¬ Good E.bad) (hty : ∀ t i, E.ty.get t = some i → TyOk P t i)
theorem run_append_op {t t2 : TypeId} {s x : Operand} {act : Act} {w : World} {sv xv : Value} (ho : o.op = .call { callee := .builtin .append, args := #[s, x], argTypes := #[t, t2] }) (hs : act.eval s = sv) (hx : act.eval x = xv) :
    (execOp act.eval o).run P w = ((Builtin.append_ #[t, t2] o.type #[sv, xv]).run P w).andThen fun v w' => .ok (.value v) w' := by
  simp only [execOp, ho, resolve, invoke, Go.builtin, Sem.run_bind, Sem.run_pure, Result.andThen_ok, List.map_toArray, List.map_cons, List.map_nil, hs, hx]
theorem run_append_count {t t2 ty e sz bytes m : Nat} {q q2 : IntKind} {z : Value} [hT : SliceT P t e sz bytes z] (hd : P.underlying t2 = some (.int q2)) {w : World} {base : Option Addr} (h0 : 0 < m) (h63 : m ≤ 140737488355328) (hb : m * bytes ≤ 140737488355328) :
    ∃ cap, m ≤ cap ∧ (Builtin.append_ #[t, t2] ty #[.slice base 0 0, .int q (m : Int)]).run P w =
      .ok (.slice (some ⟨w.heap.size, 0, none⟩) m cap) (w.drew.alloc (.cells (Builtin.zeroCells z.cells m ++ Builtin.zeroCells z.cells (cap - m)) e)) := by
  obtain ⟨i, hi, hz, hs, hby⟩ := hT.info
  have hc := hT.c
  subst hs
  subst hby
  have hfit := growslice_fits h0 hb
  have hw : IntKind.i64.wrap (m : Int) = (m : Int) := wrap_i64_id (by omega) (by omega)
  have h1 : ¬ ((m : Int) < 0) := by omega
  have h2 : ¬ (281474976710656 < (m : Int) * (i.bytes : Int)) := by
    rw [← Int.natCast_mul]; omega
  have h3 : ¬ (m ≤ 0) := by omega
  have h63' : ¬ (9223372036854775807 < (m : Int)) := by omega
  have h48' : ¬ (281474976710656 < Builtin.nextslicecap m 0 * i.bytes) := by omega
  refine ⟨grownCap w m 0 e, grownCap_ge w _ _ _, ?_⟩
  have hz0 : m = 0 ∨ i.size = 0 → Builtin.zeroCells z.cells m = #[] := fun h => by
    apply Array.eq_empty_of_size_eq_zero
    rw [size_zeroCells, hc]
    rcases h with h | h <;> rw [h] <;> simp
  by_cases hn : m = 0 ∨ i.size = 0
  · cases base <;> simp [Builtin.append_, run_underlying hT.h, run_underlying hd, sizeOf, typeInfo, zeroValue, hi, hz, Go.asInt, asIntOf, hw, h1, h2, h3, h63', h48', Question.forced, newRow, grownCap, Builtin.firstCells, loadCells, loadCellsFrom, hn, hz0 hn] <;> omega
  · have hm0 : ¬ m = 0 := fun h => hn (.inl h)
    have hms : ¬ m * i.size = 0 := fun h => hn (Nat.mul_eq_zero.1 h)
    cases base <;> simp [Builtin.append_, run_underlying hT.h, run_underlying hd, sizeOf, typeInfo, zeroValue, hi, hz, Go.asInt, asIntOf, hw, h1, h2, h3, h63', h48', Question.forced, newRow, grownCap, Builtin.firstCells, loadCells, loadCellsFrom, hms]
    all_goals first | exact hm0 | exact fun h => absurd h hm0
theorem append_same {t t2 e sz bytes : Nat} {z : Value} [hT : SliceT P t e sz bytes z] [h2 : NotIntT P t2] {ty : TypeId} {g : Gh} {w : World} {xv : Value} {base : Option Addr} {m cap : Nat} {ys : List AV} (hs : Src P g w xv 0 sz (.cel ys)) (hc : m ≤ cap) :
    (Builtin.append_ #[t, t2] ty #[.slice base m cap, xv]).run P w = .ok (.slice base m cap) w := by
  obtain ⟨news, n1, n2, n3, n4⟩ := hs.cells
  have hl := hs.len
  have hn0 : news = #[] := by rw [hl, Nat.zero_mul] at n1; exact Array.eq_empty_of_size_eq_zero n1
  subst hn0
  have hr := run_append_room' (P := P) (t := t) (t2 := t2) (ty := ty) (sz := sz) (base := base) (sLen := m) (sCap := cap) hs.lenOf n4 (by omega)
  rw [hr]
  cases base <;> simp [storeCells]
theorem put_cat (t : T AV) (m : Nat) (ys : List AV) (q : Nat) (hq : m ≤ q) : (XO.cel (m + ys.length) (t.putL m ys)).ao = .cel (t.seg .unk 0 m ++ ys) := by
  show AO.cel _ = _
  congr 1
  apply List.ext_getElem?
  intro i
  rw [seg_get, Nat.zero_add, get_putL]
  by_cases h : i < m
  · rw [List.getElem?_append_left (by rw [seg_length]; exact h), seg_get, Nat.zero_add, if_pos h, if_pos (by omega)]
    simp only [show ¬ (m ≤ i ∧ i < m + ys.length) from by omega, if_false]
  · rw [List.getElem?_append_right (by rw [seg_length]; omega), seg_length]
    by_cases h2 : i < m + ys.length
    · rw [if_pos h2]
      simp only [show (m ≤ i ∧ i < m + ys.length) from by omega, if_true, and_self]
      rw [List.getElem?_eq_getElem (by omega)]
      rfl
    · rw [if_neg h2, List.getElem?_eq_none (by omega)]
include hb in
theorem append_ok {t t2 e sz by_ : Nat} {zv : Value} [hT : SliceT P t e sz by_ zv] [h2 : NotIntT P t2] {s x : Operand} (ho : o.op = .call { callee := .builtin .append, args := #[s, x], argTypes := #[t, t2] })
    {R : T AV} {H : T XO} {a : Nat} {k : K ρ} {m : Nat} {ys : List AV} (hyl : ys.length = m * sz) (hsrc : ∀ F g w v, Sim g (join (hof H) F) w → Rep g (ev x R) v → Src P g w v m sz (.cel ys))
    (h : Good (appendTo sz by_ (ev s R) m ys H a k E.bad)) : ∃ x' H' b, OpS P n o R H a x' H' b ∧ Good (k x' H' b) := by
  have same : Good (k (ev s R) H a) → m = 0 → (∀ g v, Rep g (ev s R) v → ∃ base q cap, v = .slice base q cap ∧ q ≤ cap) → ∃ x' H' b, OpS P n o R H a x' H' b ∧ Good (k x' H' b) := fun hg h0 hv => by
    refine ⟨_, H, a, opS_pure fun F g act w _ hp => ?_, hg⟩
    have hr := ev_rep hp s
    obtain ⟨base, q, cap, he, hqc⟩ := hv g _ hr
    have hs := hsrc F g w _ hp.sim (ev_rep hp x)
    subst h0
    exact ⟨act.eval s, by rw [run_append_op ho he rfl, append_same (t := t) hs hqc, Result.andThen_ok, he], hr⟩
  have fresh : Good (k (.vwn a sz 0 m) (H.put a (cel ys)) (a + 1)) → 0 < m → m * by_ ≤ 140737488355328 → m ≤ 140737488355328 → (∀ g v, Rep g (ev s R) v → ∃ base, v = .slice base 0 0) → ∃ x' H' b, OpS P n o R H a x' H' b ∧ Good (k x' H' b) := fun hg h0 hby h63 hv => by
    refine ⟨_, _, _, opS_new fun F g act w hd hp hl' => ?_, hg⟩
    obtain ⟨base, he⟩ := hv g _ (ev_rep hp s)
    have s2 := hsrc F g w _ hp.sim (ev_rep hp x)
    obtain ⟨news, n1, n2, n3, n4⟩ := s2.cells
    have hold : ∀ w', w'.heap = w.heap → (Builtin.firstCells sz 0 (.slice base 0 0)).run P w' = .ok #[] w' := fun w' _ => by cases base <;> simp [Builtin.firstCells, loadCells, loadCellsFrom]
    obtain ⟨cap, hc, hr⟩ := run_append_grow' (P := P) (t := t) (t2 := t2) (ty := o.type) (sz := sz) (base := base) (sLen := 0) (sCap := 0) s2.lenOf n4 hold (by omega) (by omega) (by rw [Nat.zero_add]; exact hby)
    rw [Nat.zero_add] at hc hr
    generalize hc3 : (#[] ++ news ++ Builtin.zeroCells zv.cells (cap - m) : Array Value) = c3 at hr
    have hn2 : RepC g (.cel ys) c3 0 := hc3 ▸ n2.padded _
    have hcs : c3.size = cap * sz := by
      subst hc3
      simp only [Array.size_append, List.size_toArray, List.length_nil, Nat.zero_add, size_zeroCells, hT.c, n1, s2.len, ← Nat.add_mul]
      congr 1
      omega
    obtain ⟨g', e1, e2, e3⟩ := sim_new (w' := w.drew.alloc (.cells c3 e)) (y := (cel ys).ao) hp.sim ⟨rfl, rfl, rfl⟩ rfl (unfrozen00 c3) hl' (by rw [cel_ao]; exact hn2)
    exact ⟨.slice (some ⟨w.heap.size, 0, none⟩) m cap, _, g', by rw [run_append_op ho he rfl, hr, Result.andThen_ok], e1, by
      simp only [Rep]
      exact .inl ⟨_, cap, e2, by simp, hc, by simp; omega⟩, e3⟩
  unfold appendTo at h
  rcases natOn_cases h with ⟨h0, h⟩ | ⟨m', hm', h⟩
  · rcases asVwn_cases h with ⟨ob, s', off, q, hs, h⟩ | h
    · refine same h h0 fun g v hv => ?_
      rw [hs] at hv
      simp only [Rep] at hv
      rcases hv with ⟨l, cap, _, he, hqc, _⟩ | ⟨rfl, ad, he⟩
      · exact ⟨_, _, _, he, hqc⟩
      · exact ⟨_, _, _, he, Nat.le_refl _⟩
    · rcases asNilS_cases h with ⟨hs, h⟩ | h
      · refine same h h0 fun g v hv => ?_
        rw [hs] at hv
        simp only [Rep] at hv
        exact ⟨_, _, _, hv, Nat.le_refl _⟩
      · rcases asEmp_cases h with ⟨hs, h⟩ | h
        · refine same h h0 fun g v hv => ?_
          rw [hs] at hv
          simp only [Rep] at hv
          obtain ⟨ad, hv⟩ := hv
          exact ⟨_, _, _, hv, Nat.le_refl _⟩
        · exact absurd h hb
  · have hm0 : 0 < m := by omega
    rcases asVwn_cases h with ⟨ob, s', off, q, hs, h⟩ | h
    · rcases beq_cases h with ⟨rfl, h⟩ | h
      rotate_left
      · exact absurd h hb
      rcases ble_cases h with ⟨hby, h⟩ | h
      rotate_left
      · exact absurd h hb
      rcases ble_cases h with ⟨h63, h⟩ | h
      rotate_left
      · exact absurd h hb
      rcases atCel_cases h with ⟨len, tr, hH, h⟩ | h
      rotate_left
      · exact absurd h hb
      rcases ble_cases h with ⟨hle, h⟩ | h
      rotate_left
      · exact absurd h hb
      unfold most at hby h63
      have key : ∀ y : XO, y.ao = .cel (tr.seg .unk off (q * s') ++ ys) → OpS P n o R H a (.vwn a s' 0 (q + m)) ((H.del ob).put a y) (a + 1) := by
        intro y hy
        refine ⟨by omega, fun p hp => ?_, fun F g act w hd hp hf Kc Q hk => ?_⟩
        · rw [hof_put, hof_del] at hp
          simp only [AHeap.set, AHeap.erase] at hp
          by_cases h1 : p = a
          · exact .inr (by omega)
          · rw [if_neg h1] at hp
            by_cases h2 : p = ob
            · rw [if_pos h2] at hp; cases hp
            · rw [if_neg h2] at hp; exact .inl hp
        have hl' := hf a (Nat.le_refl a) (by omega)
        have hFo : F ob = none := hd.h ob _ (hof_get hH)
        have hv := ev_is hp hs
        have hu := ev_rep hp x
        have s2 := hsrc F g w _ hp.sim hu
        obtain ⟨news, n1, n2, n3, n4⟩ := s2.cells
        have hsimE := hp.sim.erase ob
        have fin : ∀ v w' g', Ext g g' a (a + 1) → Rep g' (.vwn a s' 0 (q + m)) v → Sim g' (((join (hof H) F).erase ob).set a y.ao) w' → Kc (act.put o.dst v) w' := fun v w' g' e1 e2 e3 => by
          refine hk v w' g' e1 e2 ?_
          rw [hof_put, hof_del, ← join_set, ← join_erase hFo]; exact e3
        have hgrown : ∀ (base : Option Addr) (cap0 : Nat) (old : Array Value), act.eval s = .slice base q cap0 → cap0 < q + m → (∀ w', w'.heap = w.heap → (Builtin.firstCells s' q (.slice base q cap0)).run P w' = .ok old w') → old.size = q * s' → RepC g (.cel (tr.seg .unk off (q * s'))) old 0 → o.wp P act w Kc Q := by
          intro base cap0 old he hcap o4 o1 o2
          obtain ⟨cap, hc, hr⟩ := run_append_grow' (P := P) (t := t) (t2 := t2) (ty := o.type) (sz := s') (base := base) (sLen := q) (sCap := cap0) s2.lenOf n4 o4 hcap (by omega) hby
          generalize hc3 : (old ++ news ++ Builtin.zeroCells zv.cells (cap - (q + m)) : Array Value) = c3 at hr
          have hcs : c3.size = cap * s' := by
            subst hc3
            simp only [Array.size_append, size_zeroCells, hT.c, o1, n1, s2.len, ← Nat.add_mul]
            congr 1
            omega
          have hrep : RepC g ((AO.cel (tr.seg .unk off (q * s'))).app (.cel ys)) c3 0 := hc3 ▸ o2.append (by simp [AO.len, seg_length, o1]) n2 n1 trivial _
          obtain ⟨g', e1, e2, e3⟩ := sim_new (w' := w.drew.alloc (.cells c3 e)) (y := y.ao) hsimE ⟨rfl, rfl, rfl⟩ rfl (unfrozen00 c3) hl' (by rw [hy]; exact hrep)
          rw [Oper.wp, run_append_op ho he rfl, hr, Result.andThen_ok, Oper.upon_value]
          exact fin _ _ g' e1 (by simp only [Rep]; exact .inl ⟨_, cap, e2, by simp, hc, by simp; omega⟩) e3
        have hv' := hv
        simp only [Rep] at hv'
        rcases hv' with ⟨l, cap0, hloc, he, hkc, hfit⟩ | ⟨hk0, base, he⟩
        · obtain ⟨c, e1, fz, h1, h2', h3, h4⟩ := row_of hp.sim (join_get hH) (fun _ h => by cases h) hloc
          have hsz := h4.1
          rw [seg_length] at hsz
          have hcut : RepC g (.cel (tr.seg .unk off (q * s'))) c (l.base + off) := by
            have hc := seg_cut tr len off (q * s') hle
            exact ⟨by rw [seg_length]; omega, by rw [← hc]; exact repAt_take (repAt_drop h4.2 off) _⟩
          by_cases hroom : q + m ≤ cap0
          · have hcap : (q + m) * s' ≤ cap0 * s' := Nat.mul_le_mul_right _ hroom
            rw [Nat.add_mul] at hcap
            have hr := run_append_room' (P := P) (t := t) (t2 := t2) (ty := o.type) (sz := s') (base := some ⟨l.blk, l.base + off, none⟩) (sLen := q) (sCap := cap0) s2.lenOf n4 hroom
            have hlen2 : (AO.cel ys).len = m * s' := s2.len
            have hnl : news.toList.length = m * s' := by rw [Array.length_toList, n1, s2.len]
            obtain ⟨c', q1, q2, q3, q4⟩ := run_storeCells_row (P := P) news.toList 0 (w := w) (b := l.blk) (off := l.base + off + q * s') h1 h3 (by omega) (fun v hv => n3 v (by simpa using hv))
            simp only [Nat.add_zero] at q3 q4
            have hfree : ∀ p y' l', ((join (hof H) F).erase ob) p = some y' → g.loc p = some l' → l'.blk ≠ l.blk := fun p y' l' hpy hl'' e => by
              simp only [AHeap.erase] at hpy
              split at hpy
              · cases hpy
              · rename_i hpo
                exact hpo (hp.sim.inj _ _ _ _ _ _ hpy (join_get hH) hl'' hloc e)
            have hdl : (AO.cel (tr.seg .unk off (q * s'))).len = q * s' := by simp [AO.len, seg_length]
            have hrep : RepC g ((AO.cel (tr.seg .unk off (q * s'))).app (.cel ys)) c' (l.base + off) := by
              refine RepC.grown (c := c) (news := news.toList) hcut (by simpa using n2) (by rw [hnl, s2.len]) trivial q2 (by rw [hdl, s2.len]; omega) (fun j hj => ?_) (fun j hj => ?_)
              · rw [hdl] at hj; exact q3 j (.inl (by omega))
              · rw [hdl]; exact q4 j hj
            have hplace := hsimE.place (w' := w.setRow l.blk c') (same_setRow _ _ _) (hp.sim.apart _ _ _ (join_get hH) hloc) hfree (fun k' hk' => setRow_other w _ _ _ hk') (heap_setRow h1) (fun j hj => h3 j (by omega)) hl' hrep
            rw [Oper.wp, run_append_op ho he rfl, hr]
            simp only [add_lit', q1, Result.andThen_ok, Oper.upon_value]
            refine fin _ _ (g.at a ⟨l.blk, l.base + off, c'.size⟩) ⟨g.le_at hl' _, fun p hp => by simp [Gh.at]; omega⟩ ?_ (by rw [hy]; exact hplace)
            simp only [Rep]
            exact .inl ⟨⟨l.blk, l.base + off, c'.size⟩, cap0, Gh.at_self _ _ _, by simp, hroom, by simp; omega⟩
          · obtain ⟨old, o1, o2, o3, o4⟩ := (src_row (P := P) (w := w) (cap := cap0) h1 hcut (m := q) (sz := s') (by simp [AO.len, seg_length])).cells
            exact hgrown _ _ old he (by omega) o4 (by simpa [AO.len, seg_length] using o1) o2
        · subst hk0
          refine hgrown (some base) 0 #[] he (by omega) (fun w' _ => by simp [Builtin.firstCells, loadCells, loadCellsFrom]) (by simp) ?_
          simp only [Nat.zero_mul, seg_zero]
          exact ⟨by simp, by simp only [RepAt]⟩
      rcases natOn_cases h with ⟨h0, h⟩ | ⟨off', h0, h⟩
      · refine ⟨_, _, _, key _ ?_, h⟩
        subst h0
        rw [Nat.add_mul, ← hyl]
        exact put_cat tr (q * s') ys _ (Nat.le_refl _)
      · exact ⟨_, _, _, key _ (cel_ao _), h⟩
    · rcases asSlsx_cases h with ⟨q, xs, hs, h⟩ | h
      · rcases lenIs_cases h with ⟨hxl, h⟩ | h
        rotate_left
        · exact absurd h hb
        rcases ble_cases h with ⟨hby, h⟩ | h
        rotate_left
        · exact absurd h hb
        rcases ble_cases h with ⟨h63, h⟩ | h
        rotate_left
        · exact absurd h hb
        unfold most at hby h63
        refine ⟨_, H, a, ⟨Nat.le_refl a, .refl H a a, fun F g act w hd hp hf Kc Q hk => ?_⟩, h⟩
        have hv := ev_is hp hs
        have s1 := srcA_slsx (join (hof H) F) q sz xs hxl P g w _ hp.sim hv
        have s2 := hsrc F g w _ hp.sim (ev_rep hp x)
        obtain ⟨old, o1, o2, o3, o4⟩ := s1.cells
        obtain ⟨news, n1, n2, n3, n4⟩ := s2.cells
        have hbase : ∃ base, act.eval s = .slice base q q := by
          simp only [Rep] at hv
          rcases hv with ⟨rfl, _, ad, he⟩ | ⟨b, off, c, e', fz, he, _⟩
          · exact ⟨_, he⟩
          · exact ⟨_, he⟩
        obtain ⟨base, he⟩ := hbase
        rw [he] at o4
        obtain ⟨cap, hc, hr⟩ := run_append_grow' (P := P) (t := t) (t2 := t2) (ty := o.type) (sz := sz) (base := base) (sLen := q) (sCap := q) s2.lenOf n4 o4 (by omega) (by omega) hby
        generalize hc3 : (old ++ news ++ Builtin.zeroCells zv.cells (cap - (q + m)) : Array Value) = c3 at hr
        have hrep : RepC g ((AO.cel xs).app (.cel ys)) c3 0 := hc3 ▸ o2.append o1 n2 n1 trivial _
        obtain ⟨hn, hsim⟩ := hp.sim.newSeal (w' := w.drew.alloc (.cells c3 e)) ⟨rfl, rfl, rfl⟩ rfl
        rw [Oper.wp, run_append_op ho he rfl, hr, Result.andThen_ok, Oper.upon_value]
        refine hk _ _ _ ⟨g.le_seal' hn _, fun p _ => rfl⟩ ?_ hsim
        simp only [Rep]
        exact .inr ⟨w.heap.size, 0, cap, c3, e, (0, 0), rfl, hc, Gh.seal'_self _ _ _, RepAt.mono (g.le_seal' hn _) _ _ _ hrep.2⟩
      · rcases ble_cases h with ⟨hby, h⟩ | h
        rotate_left
        · exact absurd h hb
        rcases ble_cases h with ⟨h63, h⟩ | h
        rotate_left
        · exact absurd h hb
        rcases asNilS_cases h with ⟨hs, h⟩ | h
        · refine fresh h hm0 hby h63 fun g v hv => ?_
          rw [hs] at hv
          simp only [Rep] at hv
          exact ⟨_, hv⟩
        · rcases asEmp_cases h with ⟨hs, h⟩ | h
          · refine fresh h hm0 hby h63 fun g v hv => ?_
            rw [hs] at hv
            simp only [Rep] at hv
            exact hv
          · exact absurd h hb
include hb hty in
theorem ok_append {args : Array Operand} {ats : Array TypeId} (ho : o.op = .call { callee := .builtin .append, args := args, argTypes := ats }) : OpOk Good P n E o (bAppend args.toList ats.toList) := fun R H a k h => by
  rcases two_cases h with ⟨s, x, hx0, h⟩ | h
  rotate_left
  · exact absurd h hb
  rcases two_cases h with ⟨t, t2, ht0, h⟩ | h
  rotate_left
  · exact absurd h hb
  have hx1 : args = #[s, x] := by rw [← Array.toArray_toList (xs := args), hx0]
  have ht1 : ats = #[t, t2] := by rw [← Array.toArray_toList (xs := ats), ht0]
  subst hx1; subst ht1
  rcases onSome_cases h with ⟨i, hi, h⟩ | ⟨_, h⟩
  rotate_left
  · exact absurd h hb
  have T := (hty t i hi).d
  rcases tySlice_cases h with ⟨sz, by_, zz, hd, h⟩ | h
  rotate_left
  · exact absurd h hb
  rw [hd] at T
  obtain ⟨e, hu, hel, _⟩ := T
  obtain ⟨zv, hT, hz1, hz2, hz3⟩ := hel.sliceT hu
  rcases onSome_cases h with ⟨j, hj, h⟩ | ⟨_, h⟩
  rotate_left
  · exact absurd h hb
  have T2 := (hty t2 j hj).d
  rcases tyInt_cases h with ⟨q2, hd3, h⟩ | h
  · rw [hd3] at T2
    rcases asNat_cases h with ⟨q, m, hx, h⟩ | h
    rotate_left
    · exact absurd h hb
    rcases natOn_cases h with ⟨_, h⟩ | ⟨m', hm', h⟩
    · exact absurd h hb
    rcases ble_cases h with ⟨hby, h⟩ | h
    rotate_left
    · exact absurd h hb
    rcases ble_cases h with ⟨h63, h⟩ | h
    rotate_left
    · exact absurd h hb
    unfold most at hby h63
    haveI := hT
    have fresh : Good (k (.vwn a sz 0 m) (H.put a (cel (rep zz m))) (a + 1)) → (∀ g v, Rep g (ev s R) v → ∃ base, v = .slice base 0 0) → ∃ x' H' b, OpS P n o R H a x' H' b ∧ Good (k x' H' b) := fun hg hv => by
      refine ⟨_, _, _, opS_new fun F g act w hdj hp hloc => ?_, hg⟩
      obtain ⟨base, he⟩ := hv g _ (ev_rep hp s)
      have hx' := ev_is hp hx
      simp only [Rep] at hx'
      obtain ⟨cap, hc, hr⟩ := run_append_count (P := P) (t := t) (t2 := t2) (ty := o.type) (q := q) T2 (w := w) (base := base) (m := m) (by omega) h63 hby
      have hzl : zz.length = sz := by rw [hz1]; simp [hz2]
      generalize hc3 : (Builtin.zeroCells zv.cells m ++ Builtin.zeroCells zv.cells (cap - m) : Array Value) = c3 at hr
      have hcs : c3.size = cap * sz := by
        subst hc3
        rw [Array.size_append, size_zeroCells, size_zeroCells, hz2, ← Nat.add_mul]
        congr 1
        omega
      obtain ⟨g', e1, e2, e3⟩ := sim_new (w' := w.drew.alloc (.cells c3 e)) (y := (cel (rep zz m)).ao) hp.sim ⟨rfl, rfl, rfl⟩ rfl (unfrozen00 c3) hloc (by
        rw [cel_ao]
        refine ⟨by rw [rep_length, hzl, hcs]; rw [Nat.zero_add]; exact Nat.mul_le_mul_right _ hc, (repAt_iff _ _ _).2 fun i x hi => ?_⟩
        have hlt := (List.getElem?_eq_some_iff.1 hi).1
        rw [rep_length, hzl] at hlt
        rw [rep_get zz m i (by rw [hzl]; exact hlt), hz1] at hi
        simp only [List.length_map, Array.length_toList, List.getElem?_map, Option.map_eq_some_iff] at hi
        obtain ⟨u, hu0, rfl⟩ := hi
        rw [Nat.zero_add, ← hc3, Array.getElem?_append_left (by rw [size_zeroCells, hz2]; exact hlt)]
        rw [Array.getElem?_toList] at hu0
        have h1 : (norm1 u).one1 = true := List.all_eq_true.1 hz3 _ (by rw [hz1]; exact List.mem_map_of_mem (List.mem_of_getElem? (by rw [Array.getElem?_toList]; exact hu0)))
        refine ⟨u, ?_, rep_one h1 (rep_norm1 (g := g) u), rep_norm1 u⟩
        simp only [Builtin.zeroCells]
        rw [Array.getElem?_map, Array.getElem?_range, if_pos (by rw [hz2]; exact hlt)]
        simp only [Option.map_some]
        rw [getElem!_def, hu0])
      exact ⟨.slice (some ⟨w.heap.size, 0, none⟩) m cap, _, g', by rw [run_append_op ho he hx', hr, Result.andThen_ok], e1, by
        simp only [Rep]
        exact .inl ⟨_, cap, e2, by simp, hc, by simp; omega⟩, e3⟩
    rcases asNilS_cases h with ⟨hs, h⟩ | h
    · refine fresh h fun g v hv => ?_
      rw [hs] at hv
      simp only [Rep] at hv
      exact ⟨_, hv⟩
    · rcases asEmp_cases h with ⟨hs, h⟩ | h
      · refine fresh h fun g v hv => ?_
        rw [hs] at hv
        simp only [Rep] at hv
        exact hv
      · exact absurd h hb
  rcases tySl_cases h with ⟨hd2, h⟩ | h
  rotate_left
  · exact absurd h hb
  have hN : NotIntT P t2 := by
    rcases hd2 with ⟨s', b', l', hd2⟩ | hd2
    · rw [hd2] at T2
      obtain ⟨e2, hu2, _⟩ := T2
      exact ⟨.inl ⟨e2, hu2⟩⟩
    · rw [hd2] at T2
      exact ⟨.inr T2⟩
  obtain ⟨m, ys, h, hyl, hsrc⟩ := src_ok (P := P) hb h
  haveI := hT
  haveI := hN
  exact append_ok hb ho hyl hsrc h
end
end Go.Ex
namespace Go.Ex
open Go Go.Am
section
variable {ρ : Type} {Good : ρ → Prop} {P : Program} {n : Nat}
variable {E : Env ρ} {o : Oper} (hb : ¬ Good E.bad) (hty : ∀ t i, E.ty.get t = some i → TyOk P t i)
def OptIs (R : T AV) (o : Option Operand) (r : Option Nat) : Prop := (o = none ∧ r = none) ∨ ∃ y kd m, o = some y ∧ ev y R = .raw (.int kd ((m : Nat) : Int)) ∧ r = some m
theorem optNat_cases {o : Option Operand} {R : T AV} {f : Option Nat → ρ} {z : ρ} (h : Good (optNat o R f z)) : (∃ r, OptIs R o r ∧ Good (f r)) ∨ Good z := by
  rcases onSome_cases h with ⟨x, rfl, h⟩ | ⟨rfl, h⟩
  · rcases asNat_cases h with ⟨kd, m, hx, h⟩ | h
    · exact .inl ⟨some m, .inr ⟨x, kd, m, rfl, hx, rfl⟩, h⟩
    · exact .inr h
  · exact .inl ⟨none, .inl ⟨rfl, rfl⟩, h⟩
def ValIs (v : Option Value) (r : Option Nat) : Prop := (v = none ∧ r = none) ∨ ∃ kd m, v = some (.int kd ((m : Nat) : Int)) ∧ r = some m
theorem OptIs.val {R : T AV} {H : AHeap} {g : Gh} {a : Act} {w : World} (hp : XPre n R H g a w) {o : Option Operand} {r : Option Nat} (h : OptIs R o r) : ValIs (o.map a.eval) r := by
  rcases h with ⟨rfl, rfl⟩ | ⟨y, kd, m, rfl, hy, rfl⟩
  · exact .inl ⟨rfl, rfl⟩
  · have := ev_is hp hy
    simp only [Rep] at this
    exact .inr ⟨kd, m, by simp [this], rfl⟩
theorem optD_none (d : Nat) : optD none d = d := rfl
theorem optD_some (m d : Nat) : optD (some m) d = m := rfl
theorem slOk_spec {lo hi len : Nat} (h : slOk lo hi len = true) : lo ≤ hi ∧ hi ≤ len := by
  rcases ifb_cases (Good := fun b => b = true) h with ⟨h1, h2⟩ | ⟨_, h2⟩
  · exact ⟨Nat.le_of_ble_eq_true h1, Nat.le_of_ble_eq_true h2⟩
  · cases h2
theorem run_slX {t e sz bytes : Nat} {z : Value} [hT : SliceT P t e sz bytes z] {a : Option Addr} {len cap : Nat} {L H' M : Option Value} {l h m : Option Nat} (hL : ValIs L l) (hH : ValIs H' h) (hM : ValIs M m) (hhm : m = none ∨ h ≠ none)
    (h1 : optD l 0 ≤ optD h len) (h2 : optD h len ≤ optD m cap) (h3 : optD m cap ≤ cap) (w : World) :
    (Instr.sliceAt t (.slice a len cap) L H' M).run P w = .ok (.slice (if optD m cap = optD l 0 then a else a.map (·.add (optD l 0 * sz))) (optD h len - optD l 0) (optD m cap - optD l 0)) w := by
  obtain ⟨inf, k1, k2, k3, k4⟩ := hT.info
  rcases hL with ⟨rfl, rfl⟩ | ⟨kl, lo, rfl, rfl⟩ <;> rcases hH with ⟨rfl, rfl⟩ | ⟨kh, hi, rfl, rfl⟩ <;> rcases hM with ⟨rfl, rfl⟩ | ⟨km, mx, rfl, rfl⟩ <;> simp only [optD_none, optD_some] at h1 h2 h3 ⊢ <;>
    first
    | (rcases hhm with hhm | hhm
       · cases hhm
       · exact absurd rfl hhm)
    | (simp [Instr.sliceAt, Instr.slice, run_underlying hT.h, Instr.sliceBounds, Instr.sliceBound, asIntOf, sizeOf, typeInfo, k1, k3, h1, h2, h3, Nat.not_lt.mpr h1, Nat.not_lt.mpr h2, Nat.not_lt.mpr h3]; done)
    | (simp [Instr.sliceAt, Instr.slice, run_underlying hT.h, Instr.sliceBounds, Instr.sliceBound, asIntOf, sizeOf, typeInfo, k1, k3, h1, h2, h3, Nat.not_lt.mpr h1, Nat.not_lt.mpr h2, Nat.not_lt.mpr h3]; congr)
theorem maxZ_cases {m : Option Nat} {zero no : ρ} {so : Nat → ρ} (h : Good (maxZ m zero no so)) : (m = none ∧ Good no) ∨ (m = some 0 ∧ Good zero) ∨ (∃ k, m = some k ∧ Good (so k)) := by
  rcases onSome_cases h with ⟨k, rfl, h⟩ | ⟨rfl, h⟩
  · rcases natOn_cases (s := fun _ => so k) h with ⟨rfl, h⟩ | ⟨_, _, h⟩
    · exact .inr (.inl ⟨rfl, h⟩)
    · exact .inr (.inr ⟨k, rfl, h⟩)
  · exact .inl ⟨rfl, h⟩
theorem tyParr_cases {d : TD} {f : Nat → Nat → ρ} {z : ρ} (h : Good (tyParr d f z)) : (∃ n s, d = .parr n s ∧ Good (f n s)) ∨ Good z := by
  cases d <;> first | exact .inl ⟨_, _, rfl, h⟩ | exact .inr h
theorem hm_cases {h' m' : Option Nat} {y z : ρ} (h : Good (hm h' m' y z)) : ((m' = none ∨ h' ≠ none) ∧ Good y) ∨ Good z := by
  rcases onSome_cases (f := fun _ => onSome h' (fun _ => y) z) (z := y) h with ⟨x, _, h⟩ | ⟨hm, h⟩
  · rcases onSome_cases (f := fun _ => y) (z := z) h with ⟨x, hx, h⟩ | ⟨_, h⟩
    · exact .inl ⟨.inr (by rw [hx]; simp), h⟩
    · exact .inr h
  · exact .inl ⟨.inl hm, h⟩
theorem run_slice_is {t : TypeId} {x : Operand} {l h m : Option Operand} {act : Act} {w : World} {v : Value} (ho : o.op = .slice t x l h m) (hr : (Instr.sliceAt t (act.eval x) (l.map act.eval) (h.map act.eval) (m.map act.eval)).run P w = .ok v w) : (execOp act.eval o).run P w = .ok (.value v) w := by
  simp only [execOp, ho, Sem.run_bind, hr, Result.andThen_ok, Sem.run_pure]
include hb hty in
theorem ok_slice {t : TypeId} {x : Operand} {l h m : Option Operand} (ho : o.op = .slice t x l h m) : OpOk Good P n E o (oSlice t x l h m) := fun R H a k hh => by
  rcases optNat_cases hh with ⟨l', hl, hh⟩ | hh
  rotate_left
  · exact absurd hh hb
  rcases optNat_cases hh with ⟨h', hh', hh⟩ | hh
  rotate_left
  · exact absurd hh hb
  rcases optNat_cases hh with ⟨m', hm', hh⟩ | hh
  rotate_left
  · exact absurd hh hb
  rcases onSome_cases hh with ⟨i, hi, hh⟩ | ⟨_, hh⟩
  rotate_left
  · exact absurd hh hb
  rcases hm_cases hh with ⟨hhm, hh⟩ | hh
  rotate_left
  · exact absurd hh hb
  have T := (hty t i hi).d
  rcases tySlice_cases hh with ⟨sz, by_, zz, hd, hh⟩ | hh
  · rw [hd] at T
    obtain ⟨e, hu, hel, _⟩ := T
    obtain ⟨zv, hT, _⟩ := hel.sliceT hu
    haveI := hT
    have emp : ∀ len : Nat, Good (k .emp H a) → m' = some 0 → optD h' len = 0 → optD l' 0 = 0 → (∀ g v, Rep g (ev x R) v → ∃ ad cap, v = .slice ad len cap) → ∃ x' H' b, OpS P n o R H a x' H' b ∧ Good (k x' H' b) := fun len hg hm0 hh0 hl0 hv => by
      refine ⟨_, H, a, opS_pure fun F g act w _ hp => ?_, hg⟩
      obtain ⟨ad, cap, he⟩ := hv g _ (ev_rep hp x)
      have hr := run_slX (P := P) (t := t) (a := ad) (len := len) (cap := cap) (hl.val hp) (hh'.val hp) (hm'.val hp) hhm (by omega) (by rw [hm0]; simp [optD_some]; omega) (by rw [hm0]; simp [optD_some]) w
      rw [hm0, hl0, hh0] at hr
      simp only [optD_some] at hr
      exact ⟨_, run_slice_is ho (by rw [he]; exact hr), by simp only [Rep]; exact ⟨_, rfl⟩⟩
    rcases asVwn_cases hh with ⟨ob, s, off, len, hx, hh⟩ | hh
    · rcases beq_cases hh with ⟨rfl, hh⟩ | hh
      rotate_left
      · exact absurd hh hb
      rcases ifb_cases hh with ⟨hok, hh⟩ | ⟨_, hh⟩
      rotate_left
      · exact absurd hh hb
      obtain ⟨k1, k2⟩ := slOk_spec hok
      have vw : Good (k (.vwn ob s (off + optD l' 0 * s) (optD h' len - optD l' 0)) H a) → (∀ cap, len ≤ cap → optD h' len ≤ optD m' cap ∧ optD m' cap ≤ cap) → ∃ x' H' b, OpS P n o R H a x' H' b ∧ Good (k x' H' b) := fun hg hmm => by
        refine ⟨_, H, a, opS_pure fun F g act w _ hp => ?_, hg⟩
        have hv := ev_is hp hx
        simp only [Rep] at hv
        rcases hv with ⟨lo, cap, h3, he, h4, h5⟩ | ⟨h0, ad, he⟩
        · obtain ⟨q1, q2⟩ := hmm cap h4
          have hr := run_slX (P := P) (t := t) (a := some ⟨lo.blk, lo.base + off, none⟩) (len := len) (cap := cap) (hl.val hp) (hh'.val hp) (hm'.val hp) hhm k1 q1 q2 w
          refine ⟨_, run_slice_is ho (by rw [he]; exact hr), ?_⟩
          simp only [Rep]
          by_cases h0 : optD m' cap = optD l' 0
          · exact .inr ⟨by omega, ⟨lo.blk, lo.base + off, none⟩, by rw [if_pos h0, show optD h' len - optD l' 0 = 0 from by omega, show optD m' cap - optD l' 0 = 0 from by omega]⟩
          · refine .inl ⟨lo, optD m' cap - optD l' 0, h3, ?_, by omega, ?_⟩
            · rw [if_neg h0]
              simp [add_lit', Nat.add_assoc]
            · have e1 : optD m' cap * s = optD l' 0 * s + (optD m' cap - optD l' 0) * s := by rw [← Nat.add_mul]; congr 1; omega
              have e2 : optD m' cap * s ≤ cap * s := Nat.mul_le_mul_right _ q2
              omega
        · subst h0
          obtain ⟨q1, q2⟩ := hmm 0 (Nat.le_refl 0)
          have hr := run_slX (P := P) (t := t) (a := some ad) (len := 0) (cap := 0) (hl.val hp) (hh'.val hp) (hm'.val hp) hhm k1 q1 q2 w
          refine ⟨_, run_slice_is ho (by rw [he]; exact hr), ?_⟩
          simp only [Rep]
          exact .inr ⟨by omega, ad, by rw [if_pos (by omega), show optD h' 0 - optD l' 0 = 0 from by omega, show optD m' 0 - optD l' 0 = 0 from by omega]⟩
      rcases maxZ_cases hh with ⟨hm0, hh⟩ | ⟨hm0, hh⟩ | ⟨q, hm0, hh⟩
      · exact vw hh fun cap hc => by rw [hm0]; simp [optD_none]; omega
      · rcases beq_cases hh with ⟨h0, hh⟩ | hh
        · exact emp len hh hm0 h0 (by omega) fun g v hv => by
            rw [hx] at hv
            simp only [Rep] at hv
            rcases hv with ⟨lo, cap, _, he, _⟩ | ⟨h0, ad, he⟩
            · exact ⟨_, _, he⟩
            · exact ⟨_, _, by rw [he, h0]⟩
        · exact absurd hh hb
      · rcases ifb_cases hh with ⟨hok2, hh⟩ | ⟨_, hh⟩
        · obtain ⟨q1, q2⟩ := slOk_spec hok2
          exact vw hh fun cap hc => by rw [hm0]; simp [optD_some]; omega
        · exact absurd hh hb
    · rcases asNilS_cases hh with ⟨hx, hh⟩ | hh
      · rcases natOn_cases hh with ⟨k1, hh⟩ | ⟨_, _, hh⟩
        rotate_left
        · exact absurd hh hb
        rcases natOn_cases hh with ⟨k2, hh⟩ | ⟨_, _, hh⟩
        rotate_left
        · exact absurd hh hb
        have hh2 : Good (k (ev x R) H a) ∧ (m' = none ∨ m' = some 0) := by
          rcases maxZ_cases hh with ⟨hm0, hh⟩ | ⟨hm0, hh⟩ | ⟨q, hm0, hh⟩
          · exact ⟨hh, .inl hm0⟩
          · exact ⟨hh, .inr hm0⟩
          · exact absurd hh hb
        refine ⟨_, H, a, opS_pure fun F g act w _ hp => ?_, hh2.1⟩
        have hv := ev_is hp hx
        simp only [Rep] at hv
        have hmm : optD m' 0 = 0 := by rcases hh2.2 with h | h <;> rw [h] <;> rfl
        have hr := run_slX (P := P) (t := t) (a := none) (len := 0) (cap := 0) (hl.val hp) (hh'.val hp) (hm'.val hp) hhm (by omega) (by omega) (by omega) w
        rw [k1, k2, hmm] at hr
        exact ⟨_, run_slice_is ho (by rw [hv]; exact hr), by rw [hx]; simp only [Rep]; rfl⟩
      · rcases asEmp_cases hh with ⟨hx, hh⟩ | hh
        · rcases natOn_cases hh with ⟨k1, hh⟩ | ⟨_, _, hh⟩
          rotate_left
          · exact absurd hh hb
          rcases natOn_cases hh with ⟨k2, hh⟩ | ⟨_, _, hh⟩
          rotate_left
          · exact absurd hh hb
          have hh2 : Good (k (ev x R) H a) ∧ (m' = none ∨ m' = some 0) := by
            rcases maxZ_cases hh with ⟨hm0, hh⟩ | ⟨hm0, hh⟩ | ⟨q, hm0, hh⟩
            · exact ⟨hh, .inl hm0⟩
            · exact ⟨hh, .inr hm0⟩
            · exact absurd hh hb
          refine ⟨_, H, a, opS_pure fun F g act w _ hp => ?_, hh2.1⟩
          have hv := ev_is hp hx
          simp only [Rep] at hv
          obtain ⟨ad, hv⟩ := hv
          have hmm : optD m' 0 = 0 := by rcases hh2.2 with h | h <;> rw [h] <;> rfl
          have hr := run_slX (P := P) (t := t) (a := ad) (len := 0) (cap := 0) (hl.val hp) (hh'.val hp) (hm'.val hp) hhm (by omega) (by omega) (by omega) w
          rw [k1, k2, hmm] at hr
          exact ⟨_, run_slice_is ho (by rw [hv]; exact hr), by rw [hx]; simp only [Rep]; exact ⟨_, rfl⟩⟩
        · rcases asSls_cases hh with ⟨q, xs, hx, hh⟩ | hh
          rotate_left
          · exact absurd hh hb
          rcases ifb_cases hh with ⟨hok, hh⟩ | ⟨_, hh⟩
          rotate_left
          · exact absurd hh hb
          obtain ⟨k1, k2⟩ := slOk_spec hok
          rcases maxZ_cases hh with ⟨hm0, hh⟩ | ⟨hm0, hh⟩ | ⟨q', hm0, hh⟩
          · refine ⟨_, H, a, opS_pure fun F g act w _ hp => ?_, hh⟩
            have hv := ev_is hp hx
            simp only [Rep] at hv
            rcases hv with ⟨rfl, rfl, ad, cap, he⟩ | ⟨b, off, cap, c, e', fz, he, h3, h4, h5⟩
            · have hr := run_slX (P := P) (t := t) (a := ad) (len := 0) (cap := cap) (hl.val hp) (hh'.val hp) (hm'.val hp) hhm k1 (by rw [hm0]; simp [optD_none]; omega) (by rw [hm0]; simp [optD_none]) w
              exact ⟨_, run_slice_is ho (by rw [he]; exact hr), by
                simp only [Rep]
                exact .inl ⟨by omega, by simp, _, _, by rw [show optD h' 0 - optD l' 0 = 0 from by omega]⟩⟩
            · have hr := run_slX (P := P) (t := t) (a := some ⟨b, off, none⟩) (len := q) (cap := cap) (hl.val hp) (hh'.val hp) (hm'.val hp) hhm k1 (by rw [hm0]; simp [optD_none]; omega) (by rw [hm0]; simp [optD_none]) w
              rw [hm0] at hr
              simp only [optD_none] at hr
              refine ⟨_, run_slice_is ho (by rw [he]; exact hr), ?_⟩
              simp only [Rep]
              by_cases h0 : optD h' q - optD l' 0 = 0
              · exact .inl ⟨h0, by simp [h0], _, _, by rw [h0]⟩
              · have hne : ¬ cap = optD l' 0 := by omega
                refine .inr ⟨b, off + optD l' 0 * sz, cap - optD l' 0, c, e', fz, ?_, by omega, h4, repAt_take (repAt_drop h5 _) _⟩
                simp only [if_neg hne, add_lit', Option.map_some]
          · rcases beq_cases hh with ⟨h0, hh⟩ | hh
            · exact emp q hh hm0 h0 (by omega) fun g v hv => by
                rw [hx] at hv
                simp only [Rep] at hv
                rcases hv with ⟨rfl, _, ad, cap, he⟩ | ⟨b, off, cap, c, e', fz, he, _⟩
                · exact ⟨_, _, he⟩
                · exact ⟨_, _, he⟩
            · exact absurd hh hb
          · rcases beq_cases hh with ⟨hq, hh⟩ | hh
            rotate_left
            · exact absurd hh hb
            refine ⟨_, H, a, opS_pure fun F g act w _ hp => ?_, hh⟩
            have hv := ev_is hp hx
            simp only [Rep] at hv
            rcases hv with ⟨rfl, rfl, ad, cap, he⟩ | ⟨b, off, cap, c, e', fz, he, h3, h4, h5⟩
            · have hr := run_slX (P := P) (t := t) (a := ad) (len := 0) (cap := cap) (hl.val hp) (hh'.val hp) (hm'.val hp) hhm k1 (by rw [hm0]; simp [optD_some]; omega) (by rw [hm0]; simp [optD_some]; omega) w
              rw [hm0] at hr
              simp only [optD_some] at hr
              exact ⟨_, run_slice_is ho (by rw [he]; exact hr), by
                simp only [Rep]
                exact .inl ⟨by omega, by simp, _, by rw [show optD h' 0 - optD l' 0 = 0 from by omega, show q' - optD l' 0 = 0 from by omega]⟩⟩
            · have hr := run_slX (P := P) (t := t) (a := some ⟨b, off, none⟩) (len := q) (cap := cap) (hl.val hp) (hh'.val hp) (hm'.val hp) hhm k1 (by rw [hm0]; simp [optD_some]; omega) (by rw [hm0]; simp [optD_some]; omega) w
              rw [hm0] at hr
              simp only [optD_some] at hr
              refine ⟨_, run_slice_is ho (by rw [he]; exact hr), ?_⟩
              simp only [Rep]
              by_cases h0 : optD h' q - optD l' 0 = 0
              · exact .inl ⟨h0, by simp [h0], _, by rw [h0, show q' - optD l' 0 = 0 from by omega]⟩
              · refine .inr ⟨b, off + optD l' 0 * sz, c, e', fz, ?_, h4, repAt_take (repAt_drop h5 _) _⟩
                have hne : ¬ q' = optD l' 0 := by omega
                have hee : q' - optD l' 0 = optD h' q - optD l' 0 := by omega
                simp only [if_neg hne, add_lit', Option.map_some]
                rw [hee]
  · rcases tyStr_cases hh with ⟨hd, hh⟩ | hh
    · rw [hd] at T
      rcases asStr_cases hh with ⟨bs, hx, hh⟩ | hh
      rotate_left
      · exact absurd hh hb
      rcases onSome_cases hh with ⟨_, _, hh⟩ | ⟨hm0, hh⟩
      · exact absurd hh hb
      rcases ifb_cases hh with ⟨hok, hh⟩ | ⟨_, hh⟩
      rotate_left
      · exact absurd hh hb
      obtain ⟨k1, k2⟩ := slOk_spec hok
      refine ⟨_, H, a, opS_pure fun F g act w _ hp => ?_, hh⟩
      have hv := ev_is hp hx
      simp only [Rep] at hv
      have vl := hl.val hp
      have vh := hh'.val hp
      have vm := hm'.val hp
      rw [hm0] at vm
      have vm' : m.map act.eval = none := by
        rcases vm with ⟨h, _⟩ | ⟨_, _, _, h⟩
        · exact h
        · cases h
      have e1 : (ByteArray.mk bs.toArray).extract (optD l' 0) (optD h' bs.length) = ⟨((bs.drop (optD l' 0)).take (optD h' bs.length - optD l' 0)).toArray⟩ := by
        apply ByteArray.ext
        rw [ByteArray.data_extract]
        apply Array.ext'
        simp
      refine ⟨_, run_slice_is ho ?_, by simp only [Rep]; rw [← e1]⟩
      rw [hv, vm']
      have e2 : (ByteArray.mk bs.toArray).extract 0 bs.length = ByteArray.mk bs.toArray := by
        apply ByteArray.ext
        rw [ByteArray.data_extract]
        apply Array.ext'
        simp
      rcases vl with ⟨hl', rfl⟩ | ⟨kl, lo, hl', rfl⟩ <;> rcases vh with ⟨hh'', rfl⟩ | ⟨kh, hi2, hh'', rfl⟩ <;> rw [hl', hh''] <;> simp only [optD_none, optD_some] at k1 k2 ⊢ <;>
        simp [e2, Instr.sliceAt, Instr.slice, run_underlying T, Instr.sliceBounds, Instr.sliceBound, asIntOf, size_mk, Nat.not_lt.mpr k1, Nat.not_lt.mpr k2, k1]
    · rcases tyArr0_cases hh with ⟨len, e0, ag, hd, hh⟩ | hh
      rotate_left
      · exact absurd hh hb
      rw [hd] at T
      obtain ⟨e, hu, hsz, _⟩ := T
      rcases asPtr_cases hh with ⟨ob, off, hx, hh⟩ | hh
      rotate_left
      · exact absurd hh hb
      rcases onSome_cases hh with ⟨_, _, hh⟩ | ⟨hm0, hh⟩
      · exact absurd hh hb
      rcases atCel_cases hh with ⟨q, c, hH, hh⟩ | hh
      rotate_left
      · exact absurd hh hb
      rcases ifb_cases hh with ⟨hle, hh⟩ | ⟨_, hh⟩
      rotate_left
      · exact absurd hh hb
      have hle := Nat.le_of_ble_eq_true hle
      rcases ifb_cases hh with ⟨hok, hh⟩ | ⟨_, hh⟩
      rotate_left
      · exact absurd hh hb
      obtain ⟨k1, k2⟩ := slOk_spec hok
      refine ⟨_, H, a, opS_pure fun F g act w _ hp => ?_, hh⟩
      have hv := ev_is hp hx
      simp only [Rep] at hv
      obtain ⟨lo, hlo, he⟩ := hv
      obtain ⟨cv, e', fz, g1, g2, g3, g4⟩ := row_of hp.sim (join_get hH) (fun _ h => by cases h) hlo
      have hsz' := g4.1
      rw [seg_length] at hsz'
      have vl := hl.val hp
      have vh := hh'.val hp
      have vm := hm'.val hp
      rw [hm0] at vm
      have vm' : m.map act.eval = none := by
        rcases vm with ⟨h, _⟩ | ⟨_, _, _, h⟩
        · exact h
        · cases h
      have hr : (Instr.sliceAt t (.pointer (some ⟨lo.blk, lo.base + off, none⟩)) (l.map act.eval) (h.map act.eval) none).run P w = .ok (.slice (some (if len = optD l' 0 then ⟨lo.blk, lo.base + off, none⟩ else (⟨lo.blk, lo.base + off, none⟩ : Addr).add (optD l' 0 * e0))) (optD h' len - optD l' 0) (len - optD l' 0)) w := by
        rcases vl with ⟨hl', rfl⟩ | ⟨kl, lo', hl', rfl⟩ <;> rcases vh with ⟨hh'', rfl⟩ | ⟨kh, hi2, hh'', rfl⟩ <;> rw [hl', hh''] <;> simp only [optD_none, optD_some] at k1 k2 ⊢ <;>
          (simp [Instr.sliceAt, Instr.sureAddr, run_underlying hu, Instr.sliceBounds, Instr.sliceBound, asIntOf, hsz, Nat.not_lt.mpr k1, Nat.not_lt.mpr k2, k1, k2] <;> congr)
      refine ⟨_, run_slice_is ho (by rw [he, vm']; exact hr), ?_⟩
      simp only [Rep]
      by_cases h0 : len = optD l' 0
      · exact .inr ⟨by omega, _, by rw [show optD h' len - optD l' 0 = 0 from by omega, show len - optD l' 0 = 0 from by omega]⟩
      · refine .inl ⟨lo, len - optD l' 0, hlo, ?_, by omega, ?_⟩
        · simp only [if_neg h0, add_lit', Nat.add_assoc]
        · have e1 : len * e0 = optD l' 0 * e0 + (len - optD l' 0) * e0 := by rw [← Nat.add_mul]; congr 1; omega
          omega
end
end Go.Ex
namespace Go.Ex
open Go Go.Am
section
variable {ρ : Type} {Good : ρ → Prop} {P : Program} {n : Nat}
variable {E : Env ρ} {o : Oper} (hb : ¬ Good E.bad) (hty : ∀ t i, E.ty.get t = some i → TyOk P t i)
theorem u8z_cases {l : List AV} {y z : ρ} (h : Good (u8z l y z)) : (∃ q, l = [.raw (.int .u8 q)] ∧ Good y) ∨ Good z := by
  rcases one1_cases h with ⟨x, rfl, h⟩ | h
  · rcases asInt_cases h with ⟨k, m, rfl, h⟩ | h
    · rcases ifb_cases h with ⟨hk, h⟩ | ⟨_, h⟩
      · have hk : k = .u8 := by simpa [sameK] using hk
        exact .inl ⟨m, by rw [hk], h⟩
      · exact .inr h
    · exact .inr h
  · exact .inr h
theorem byteOf_cases {x : AV} {f : UInt8 → ρ} {z : ρ} (h : Good (byteOf x f z)) : (∃ b : UInt8, x = .raw (.int .u8 (b.toNat : Int)) ∧ Good (f b)) ∨ Good z := by
  rcases asInt_cases h with ⟨k, m, rfl, h⟩ | h
  · rcases ifb_cases h with ⟨hk, h⟩ | ⟨_, h⟩
    · have hk : k = .u8 := by simpa [sameK] using hk
      subst hk
      rcases intNat_cases h with ⟨q, rfl, h⟩ | h
      · rcases ifb_cases h with ⟨hq, h⟩ | ⟨_, h⟩
        · have hq : q < 256 := Nat.le_of_ble_eq_true hq
          exact .inl ⟨UInt8.ofNat q, by simp [Nat.mod_eq_of_lt hq], h⟩
        · exact .inr h
      · exact .inr h
    · exact .inr h
  · exact .inr h
theorem toBytes_cases {z : ρ} : ∀ {xs : List AV} {f : List UInt8 → ρ}, Good (toBytes xs f z) → (∃ bs, xs = ofBytes bs ∧ Good (f bs)) ∨ Good z
  | [], f, h => .inl ⟨[], rfl, h⟩
  | x :: xs, f, h => by
    rcases byteOf_cases (f := fun b => toBytes xs (fun l => f (b :: l)) z) h with ⟨b, hx0, h⟩ | h
    · rcases toBytes_cases (xs := xs) (f := fun l => f (b :: l)) h with ⟨bs, hx, h⟩ | h
      · exact .inl ⟨b :: bs, by rw [hx, hx0]; rfl, h⟩
      · exact .inr h
    · exact .inr h
theorem repC_byt_of_cel {g : Gh} {bs : List UInt8} {c : Array Value} {k : Nat} (h : RepC g (.cel (ofBytes bs)) c k) : RepC g (.byt bs) c k := by
  refine ⟨by have := h.1; simp [ofBytes] at this; omega, fun i b hi => ?_⟩
  obtain ⟨u, hu, _, hr⟩ := (repAt_iff _ _ _).1 h.2 i (.raw (.int .u8 (b.toNat : Int))) (by simp only [ofBytes, List.getElem?_map, hi, Option.map_some])
  simp only [Rep] at hr
  rw [hu, hr]
theorem src_sl {H : T XO} {sz : Nat} {x : AV} {f : Nat → List AV → ρ} {z : ρ} (hz : ¬ Good z) (h : Good (src H sz x f z)) (hs : ∀ bs, x ≠ .str bs) : ∀ g v, Rep g x v → ∃ ad q cap, v = .slice ad q cap := fun g v hv => by
  rcases asVwn_cases h with ⟨ob, s, off, len, rfl, h⟩ | h
  · simp only [Rep] at hv
    rcases hv with ⟨l, cap, hl, he, _⟩ | ⟨rfl, ad, he⟩
    · exact ⟨_, _, _, he⟩
    · exact ⟨_, _, _, he⟩
  · rcases asStr_cases h with ⟨bs, rfl, h⟩ | h
    · exact absurd rfl (hs bs)
    · rcases asSls_cases h with ⟨m, xs, rfl, h⟩ | h
      · simp only [Rep] at hv
        rcases hv with ⟨_, _, ad, cap, he⟩ | ⟨b, off, cap, c, e', fz, he, _⟩
        · exact ⟨_, _, _, he⟩
        · exact ⟨_, _, _, he⟩
      · rcases asSlsx_cases h with ⟨m, xs, rfl, h⟩ | h
        · simp only [Rep] at hv
          rcases hv with ⟨_, _, ad, he⟩ | ⟨b, off, c, e', fz, he, _⟩
          · exact ⟨_, _, _, he⟩
          · exact ⟨_, _, _, he⟩
        · rcases asNilS_cases h with ⟨rfl, h⟩ | h
          · simp only [Rep] at hv
            exact ⟨_, _, _, hv⟩
          · rcases asEmp_cases h with ⟨rfl, h⟩ | h
            · simp only [Rep] at hv
              obtain ⟨ad, he⟩ := hv
              exact ⟨_, _, _, he⟩
            · exact absurd h hz
theorem run_bytes_str {g : Gh} {w : World} {s t e : TypeId} {v : Value} {bs : List UInt8} (hs : P.underlying s = some (.slice e)) (he' : P.underlying e = some (.int .u8)) (ht : P.underlying t = some .string)
    (hsrc : Src P g w v bs.length 1 (.byt bs)) (hv : ∃ ad q cap, v = .slice ad q cap) : (convert s t v).run P w = .ok (.string ⟨bs.toArray⟩) w := by
  obtain ⟨ad, k, cap, rfl⟩ := hv
  obtain ⟨news, n1, n2, n3, n4⟩ := hsrc.cells
  have hlo := hsrc.lenOf w
  simp [Builtin.lenOf] at hlo
  subst hlo
  have hnews : news = ((bs.map fun b => (b.toNat : Int)).map (Value.int .u8)).toArray := by
    apply Array.ext'
    apply List.ext_getElem?
    intro i
    by_cases hi : i < bs.length
    · have := n2.2 i _ (List.getElem?_eq_getElem hi)
      rw [Nat.zero_add] at this
      rw [Array.getElem?_toList, this]
      simp [hi]
    · simp only [AO.len] at n1
      rw [Array.getElem?_toList, Array.getElem?_eq_none (by rw [n1]; omega), List.getElem?_eq_none (by simp; omega)]
  cases ad with
  | none =>
    have h0 := n4 w rfl
    simp [Builtin.firstCells] at h0
    have hb : bs = [] := by
      subst hnews
      simpa using h0
    subst hb
    simp [run_convert_bytes_string w s t e none 0 cap hs he' ht, Conv.bytesToString]
    rfl
  | some ad =>
    have hl := n4 w rfl
    simp only [Builtin.firstCells, Nat.mul_one] at hl
    have hr := run_bytesToString (P := P) w ad bs.length cap (bs.map fun b => (b.toNat : Int)) (by rw [hl, hnews])
    rw [foldl_push_byteCells] at hr
    simp only [run_convert_bytes_string w s t e (some ad) bs.length cap hs he' ht, hr]
    congr 3
    show (#[] : Array UInt8) ++ bs.toArray = bs.toArray
    simp
theorem rep_byte {g : Gh} (b : UInt8) : Rep g (.raw (.int .u8 (b.toNat : Int))) (.int .u8 (b.toNat : Int)) := by simp only [Rep]
include hb hty in
theorem ok_convert {s t : TypeId} {x : Operand} (ho : o.op = .convert s t x) : OpOk Good P n E o (oConvert s t x) := fun R H a k h => by
  rcases onSome_cases h with ⟨i, hi, h⟩ | ⟨_, h⟩
  rotate_left
  · exact absurd h hb
  rcases onSome_cases h with ⟨j, hj, h⟩ | ⟨_, h⟩
  rotate_left
  · exact absurd h hb
  have I := hty s i hi
  have J := hty t j hj
  have Jd := J.d
  have Id := I.d
  rcases tyInt_cases h with ⟨q, hd, h⟩ | h
  · rw [hd] at Jd
    rcases asInt_cases h with ⟨q', m, hx, h⟩ | h
    rotate_left
    · exact absurd h hb
    refine ⟨_, H, a, opS_pure fun F g act w _ hp => ?_, h⟩
    have h1 := ev_is hp hx
    simp only [Rep] at h1
    obtain ⟨d', hd'⟩ := Option.isSome_iff_exists.mp I.known
    exact ⟨.int q (q.wrap m), by simp [execOp, ho, h1, convert, run_underlying hd', run_underlying Jd, Conv.intToInt], by simp only [Rep]⟩
  · rcases tyStr_cases h with ⟨hd, h⟩ | h
    · rw [hd] at Jd
      rcases tyStr_cases h with ⟨hd2, h⟩ | h
      · rw [hd2] at Id
        rcases asStr_cases h with ⟨bs, hx, h⟩ | h
        rotate_left
        · exact absurd h hb
        refine ⟨_, H, a, opS_pure fun F g act w _ hp => ?_, h⟩
        have h1 := ev_is hp hx
        simp only [Rep] at h1
        exact ⟨.string ⟨bs.toArray⟩, by simp [execOp, ho, h1, convert, run_underlying Id, run_underlying Jd], by simp only [Rep]⟩
      · rcases tySlice_cases h with ⟨sz, by_, zz, hd2, h⟩ | h
        rotate_left
        · exact absurd h hb
        rw [hd2] at Id
        obtain ⟨e, hu, hel, he⟩ := Id
        rcases u8z_cases h with ⟨q, hz, h⟩ | h
        rotate_left
        · exact absurd h hb
        have he := he q hz
        by_cases hstr : ∃ bs, ev x R = .str bs
        · obtain ⟨bs, hbs⟩ := hstr
          rw [hbs] at h
          exact absurd h hb
        have hns : ∀ bs, ev x R ≠ .str bs := fun bs h => hstr ⟨bs, h⟩
        rcases asStr_cases h with ⟨bs, hx, h⟩ | h
        · exact absurd hx (hns bs)
        have hsl := src_sl hb h hns
        obtain ⟨m, ys, h, hl, hsrc⟩ := src_ok hb h
        rcases toBytes_cases (f := fun bs => k (.str bs) H a) h with ⟨bs, hy, h⟩ | h
        rotate_left
        · exact absurd h hb
        rw [hy] at hl hsrc
        have hm : m = bs.length := by simp [ofBytes] at hl; omega
        rw [hm] at hsrc
        refine ⟨_, H, a, opS_pure fun F g act w _ hp => ?_, h⟩
        have hr := ev_rep hp x
        have hS := hsrc F g w _ hp.sim hr
        obtain ⟨news, n1, n2, n3, n4⟩ := hS.cells
        have hS' : Src P g w (act.eval x) bs.length 1 (.byt bs) := ⟨by simp [AO.len], hS.lenOf, news, by simpa [AO.len, ofBytes] using n1, repC_byt_of_cel n2, n3, n4⟩
        exact ⟨.string ⟨bs.toArray⟩, by simp [execOp, ho, run_bytes_str hu he Jd hS' (hsl g _ hr)], by simp only [Rep]⟩
    · rcases tySlice_cases h with ⟨sz, by_, zz, hd, h⟩ | h
      rotate_left
      · exact absurd h hb
      rw [hd] at Jd
      obtain ⟨e, hu, hel, he⟩ := Jd
      rcases u8z_cases h with ⟨q, hz, h⟩ | h
      rotate_left
      · exact absurd h hb
      have he := he q hz
      rcases tyStr_cases h with ⟨hd2, h⟩ | h
      rotate_left
      · exact absurd h hb
      rw [hd2] at Id
      rcases asStr_cases h with ⟨bs, hx, h⟩ | h
      rotate_left
      · exact absurd h hb
      refine ⟨_, _, _, opS_new fun F g act w hd hp hl => ?_, h⟩
      have hv := ev_is hp hx
      simp only [Rep] at hv
      have hr := run_bytes_of_string (P := P) w s t e ⟨bs.toArray⟩ Id hu he
      rw [size_mk] at hr
      generalize hcap : grownCap w bs.length 0 e = cap at hr
      have hge : bs.length ≤ cap := hcap ▸ grownCap_ge w _ _ _
      generalize hc3 : bytesRow ⟨bs.toArray⟩ cap = c3 at hr
      have hsz3 : c3.size = cap := by subst hc3; simp [bytesRow, size_mk]; omega
      have hrep : RepC g (.cel (ofBytes bs)) c3 0 := by
        refine repC_cel_of_byt ⟨by omega, fun i y hi => ?_⟩
        subst hc3
        have hlt := (List.getElem?_eq_some_iff.1 hi).1
        rw [bytesRow, Nat.zero_add, Array.getElem?_append_left (by simp; omega)]
        simp [hi]
      obtain ⟨g', e1, e2, e3⟩ := sim_new (w' := w.drew.alloc (.cells c3 e (c3.size, c3.size + 1))) (y := (cel (ofBytes bs)).ao) hp.sim ⟨rfl, rfl, rfl⟩ rfl (fun i hi => by simp only; omega) hl (by rw [cel_ao]; exact hrep)
      refine ⟨.slice (some ⟨w.heap.size, 0, none⟩) bs.length cap, _, g', by simp only [execOp, ho, hv, Sem.run_bind, hr, Result.andThen_ok, Sem.run_pure], e1, ?_, e3⟩
      simp only [Rep]
      exact .inl ⟨_, cap, e2, rfl, hge, by simp; omega⟩
end
end Go.Ex
namespace Go.Ex
open Go Go.Am
section
variable {ρ : Type} {Good : ρ → Prop} {P : Program} {n : Nat}
variable {E : Env ρ} {o : Oper} (hb : ¬ Good E.bad) (hty : ∀ t i, E.ty.get t = some i → TyOk P t i)
theorem flatP_cases {R : T AV} {sz : Nat} {z : ρ} : ∀ {ps : List (Nat × Operand)} {i : Nat} {f : Nat → List AV → ρ}, Good (flatP R sz ps i f z) →
    (ps.map (·.1) = List.range' i ps.length ∧ (∀ p ∈ ps, (ev p.2 R).parts.all AV.one1 = true ∧ (ev p.2 R).parts.length = sz) ∧ Good (f (i + ps.length) (ps.flatMap fun p => (ev p.2 R).parts))) ∨ Good z
  | [], i, f, h => .inl ⟨rfl, fun _ h => by simp at h, h⟩
  | p :: ps, i, f, h => by
    rcases beq_cases (a := p.1) (b := i) (y := ifb (ones (vcells (ev p.2 R))) (ifb (Nat.beq (vcells (ev p.2 R)).length sz) (flatP R sz ps (Nat.succ i) (fun j l => f j (vcells (ev p.2 R) ++ l)) z) z) z) h with ⟨h1, h⟩ | h
    rotate_left
    · exact .inr h
    rcases ifb_cases h with ⟨h2, h⟩ | ⟨_, h⟩
    rotate_left
    · exact .inr h
    rcases beq_cases h with ⟨h3, h⟩ | h
    rotate_left
    · exact .inr h
    rcases flatP_cases (f := fun j l => f j (vcells (ev p.2 R) ++ l)) h with ⟨k1, k2, h⟩ | h
    rotate_left
    · exact .inr h
    have hp := vcells_parts _ h2
    refine .inl ⟨by simp only [List.map_cons, List.length_cons, List.range'_succ, h1, k1], fun q hq => ?_, ?_⟩
    · rcases List.mem_cons.1 hq with rfl | hq
      · exact ⟨by rw [hp]; exact ones_spec h2, by rw [hp]; exact h3⟩
      · exact k2 q hq
    · simp only [List.flatMap_cons, hp, List.length_cons]
      rw [show i + (ps.length + 1) = Nat.succ i + ps.length from by omega]
      exact h
theorem run_lit {t e sz bytes len : Nat} {z : Value} [hT : SliceT P t e sz bytes z] {g : Gh} {a : Act} {w : World} {ps : Array (Nat × Operand)} {xs : List AV} (h1 : ps.toList.map (·.1) = List.range len)
    (hval : ∀ (i : Nat) x, xs[i]? = some x → ∃ u, (ps.toList.map fun p => a.eval p.2)[i]? = some u ∧ Rep g x u) (hlen : xs.length = len)
    (hx : ∀ x ∈ xs, x.parts.all AV.one1 = true ∧ x.parts.length = sz) (hsmall : len * sz ≤ 16777216) :
    ∃ c : Array Value, (Instr.buildSlice t len (ps.map fun (i, x) => (i, a.eval x))).run P w = .ok (.slice (some ⟨w.heap.size, 0, none⟩) len len) (w.alloc (.cells c e)) ∧ c.size = len * sz ∧ RepAt g (xs.flatMap AV.parts) c 0 := by
  obtain ⟨inf, i1, i2, i3, i4⟩ := hT.info
  have hlv : (ps.toList.map fun p => a.eval p.2).length = len := by
    have := congrArg List.length h1
    simpa using this
  have hsz : ∀ v ∈ (ps.toList.map fun p => a.eval p.2), v.cells.size = sz := fun v hv => by
    obtain ⟨i, hi, rfl⟩ := List.getElem_of_mem hv
    obtain ⟨u, hu, hr⟩ := hval i _ (List.getElem?_eq_getElem (show i < xs.length by rw [hlen, ← hlv]; exact hi))
    rw [List.getElem?_eq_getElem hi] at hu
    cases hu
    obtain ⟨e1, e2⟩ := hx _ (List.getElem_mem (show i < xs.length by rw [hlen, ← hlv]; exact hi))
    have := repL_length _ _ (rep_parts hr e1)
    rw [Array.length_toList] at this
    omega
  generalize hzero : (if len * sz = 0 then (#[] : Array Value) else z.cells) = zc
  obtain ⟨c, q1, q2, q3, q4⟩ := fill_parts sz (ps.toList.map fun p => a.eval p.2) 0 ((Array.range (len * sz)).map (zc[· % zc.size]!)) hsz (by simp [hlv])
  refine ⟨c, ?_, by simpa using q2, ?_⟩
  · rw [← parts_eq h1] at q1
    have hn : ¬ (16777216 < len * sz) := by omega
    by_cases h0 : len * sz = 0
    · rw [if_pos h0] at hzero
      subst hzero
      simp only [h0] at q1
      simp [Instr.buildSlice, run_underlying hT.h, sizeOf, typeInfo, i1, i3, h0, newRow]
      simp at q1
      rw [q1]
      rfl
    · rw [if_neg h0] at hzero
      subst hzero
      simp only [Instr.buildSlice, run_underlying hT.h, Sem.run_bind, Result.andThen_ok, sizeOf, typeInfo, i1, i3, run_program, Sem.run_pure, zeroValue]
      simp [hn, h0, newRow, i1, i2]
      simp at q1
      rw [q1]
      simp
  · rw [repAt_iff]
    intro j y hj
    have hflat : ∀ (l : List AV) (k : Nat), (∀ x ∈ l, x.parts.length = sz) → ∀ j y, (l.flatMap AV.parts)[j]? = some y → ∃ i r x, l[i]? = some x ∧ r < sz ∧ x.parts[r]? = some y ∧ j = i * sz + r := by
      intro l
      induction l with
      | nil => intro _ _ j y h; simp at h
      | cons x l ih =>
        intro k hl j y h
        have hx0 := hl x (by simp)
        rw [List.flatMap_cons, List.getElem?_append] at h
        by_cases hlt : j < x.parts.length
        · rw [if_pos hlt] at h
          exact ⟨0, j, x, rfl, by omega, h, by simp⟩
        · rw [if_neg hlt] at h
          obtain ⟨i, r, x', e1, e2, e3, e4⟩ := ih k (fun u hu => hl u (by simp [hu])) _ _ h
          refine ⟨i + 1, r, x', by simpa using e1, e2, e3, ?_⟩
          rw [Nat.add_mul]; omega
    obtain ⟨i, r, x, e1, e2, e3, rfl⟩ := hflat xs 0 (fun u hu => (hx u hu).2) j y hj
    obtain ⟨u, hu, hr⟩ := hval i x e1
    have hxm := List.mem_of_getElem? e1
    have hq := q4 i r u hu e2
    simp only [Nat.zero_add] at hq ⊢
    obtain ⟨u2, hu2, hr2⟩ := ((repL_iff _ _).1 (rep_parts hr (hx x hxm).1)).2 r y e3
    rw [Array.getElem?_toList] at hu2
    exact ⟨u2, hq.trans hu2, rep_one (List.all_eq_true.1 (hx x hxm).1 y (List.mem_of_getElem? e3)) hr2, hr2⟩
include hb hty in
theorem ok_buildSlice {t len : Nat} {ps : Array (Nat × Operand)} (ho : o.op = .buildSlice t len ps) : OpOk Good P n E o (oBuildSlice t len ps) := fun R H a k h => by
  rcases onSome_cases h with ⟨i, hi, h⟩ | ⟨_, h⟩
  rotate_left
  · exact absurd h hb
  have T := (hty t i hi).d
  rcases tySlice_cases h with ⟨sz, by_, zz, hd, h⟩ | h
  rotate_left
  · exact absurd h hb
  rw [hd] at T
  obtain ⟨e, hu, hel, _⟩ := T
  obtain ⟨zv, hT, _⟩ := hel.sliceT hu
  haveI := hT
  rcases flatP_cases (f := fun m ys => ifb (Nat.beq m len) (ifb (Nat.ble (len * sz) 16777216) (k (.vwn a sz 0 len) (H.put a (cel ys)) (Nat.succ a)) E.bad) (fail "buildSlice len" E.bad)) h with ⟨k1, k2, h⟩ | h
  rotate_left
  · exact absurd h hb
  rcases beq_cases h with ⟨hm, h⟩ | h
  rotate_left
  · exact absurd h hb
  rcases ble_cases h with ⟨hs, h⟩ | h
  rotate_left
  · exact absurd h hb
  have hlen : ps.toList.length = len := by omega
  have hflat : (ps.toList.flatMap fun p => (ev p.2 R).parts) = (ps.toList.map fun p => ev p.2 R).flatMap AV.parts := by
    rw [List.flatMap_map]
  refine ⟨_, _, _, opS_new fun F g act w hd hp hl => ?_, h⟩
  obtain ⟨c, h1, h2, h3⟩ := run_lit (P := P) (t := t) (len := len) (g := g) (a := act) (w := w) (ps := ps) (xs := ps.toList.map fun p => ev p.2 R) (by rw [k1, hlen, List.range_eq_range'])
    (fun i x hi => by
      rw [List.getElem?_map] at hi ⊢
      cases hq : ps.toList[i]? with
      | none => rw [hq] at hi; cases hi
      | some p =>
        rw [hq] at hi
        simp at hi
        exact ⟨_, rfl, hi ▸ ev_rep hp p.2⟩) (by simpa using hlen)
    (fun x hx => by
      obtain ⟨p, hp', rfl⟩ := List.mem_map.1 hx
      exact k2 p hp') hs
  rw [← hflat] at h3
  have hl3 : (ps.toList.flatMap fun p => (ev p.2 R).parts).length = len * sz := by
    rw [List.length_flatMap, show (ps.toList.map fun p => (ev p.2 R).parts.length) = List.replicate len sz from ?_]
    · simp
    · apply List.ext_getElem?
      intro i
      rw [List.getElem?_replicate, List.getElem?_map]
      by_cases hi : i < len
      · rw [if_pos hi, List.getElem?_eq_getElem (by omega)]
        simp only [Option.map_some, (k2 _ (List.getElem_mem _)).2]
      · rw [if_neg hi, List.getElem?_eq_none (by omega)]
        rfl
  obtain ⟨g', e1, e2, e3⟩ := sim_new (w' := w.alloc (.cells c e)) (y := (cel (ps.toList.flatMap fun p => (ev p.2 R).parts)).ao) hp.sim ⟨rfl, rfl, rfl⟩ rfl (unfrozen00 _) hl (by rw [cel_ao]; exact ⟨by omega, h3⟩)
  refine ⟨.slice (some ⟨w.heap.size, 0, none⟩) len len, _, g', by simp only [execOp, ho, Sem.run_bind, h1, Result.andThen_ok, Sem.run_pure], e1, ?_, e3⟩
  simp only [Rep]
  exact .inl ⟨_, len, e2, rfl, Nat.le_refl _, by simp; omega⟩
theorem exPutAt (ys : List AV) : ∀ (k : Nat) (xs : List AV), k + ys.length ≤ xs.length → putAt ys k xs = Am.putAt xs k ys
  | 0, xs, h => by simp [Am.putAt]; rfl
  | k + 1, [], h => by simp at h
  | k + 1, x :: xs, h => by
    have hx := exPutAt ys k xs (by simp at h; omega)
    show x :: putAt ys k xs = _
    rw [hx]
    simp [Am.putAt]
    rw [show k + 1 + ys.length = (k + ys.length) + 1 from by omega, List.drop_succ_cons]
theorem fillParts_cases {place : Nat → Option (Nat × Nat)} {at_ : Nat → (Nat → Nat → ρ) → ρ} {m : Nat} {z : ρ} {R : T AV} (hz : ¬ Good z) (hat : ∀ j g, Good (at_ j g) → ∃ k s, place j = some (k, s) ∧ Good (g k s)) :
    ∀ {ps : List (Nat × Operand)} {xs : List AV} {f : List AV → ρ}, xs.length = m → Good (fillParts at_ m z R ps xs f) →
    ∃ ys, Good (f ys) ∧ ∀ H g act w (c : Array Value), XPre n R H g act w → RepL g xs c.toList → ∃ c', Instr.fill place c (ps.map fun p => (p.1, act.eval p.2)) = some c' ∧ RepL g ys c'.toList
  | [], xs, f, hm, h => ⟨xs, h, fun H g act w c hp hr => ⟨c, by simp [Instr.fill], hr⟩⟩
  | p :: ps, xs, f, hm, h => by
    obtain ⟨k, s, hpl, h⟩ := hat p.1 (fun k s => ifb (ones (vcells (ev p.2 R))) (ifb (Nat.beq (vcells (ev p.2 R)).length s) (ifb (Nat.ble (k + s) m) (fillParts at_ m z R ps (putAt (vcells (ev p.2 R)) k xs) f) z) z) z) h
    rcases ifb_cases h with ⟨h1, h⟩ | ⟨_, h⟩
    rotate_left
    · exact absurd h hz
    rcases beq_cases h with ⟨h2, h⟩ | h
    rotate_left
    · exact absurd h hz
    rcases ble_cases h with ⟨h3, h⟩ | h
    rotate_left
    · exact absurd h hz
    have hpt := exPutAt (vcells (ev p.2 R)) k xs (by omega)
    rw [hpt] at h
    obtain ⟨ys, hg, hy⟩ := fillParts_cases hz hat (by simp [Am.putAt]; omega) h
    refine ⟨ys, hg, fun H g act w c hp hr => ?_⟩
    have hv := rep_parts (ev_rep hp p.2) (by rw [vcells_parts _ h1]; exact ones_spec h1)
    rw [vcells_parts _ h1] at hv
    have l1 := repL_length _ _ hv
    have l2 := repL_length _ _ hr
    simp only [Array.length_toList] at l1 l2
    have hput := repL_putAt hr hv (k := k) (by omega)
    rw [← foldl_set_list (act.eval p.2) k c (by omega)] at hput
    obtain ⟨c', q1, q2⟩ := hy H g act w _ hp hput
    refine ⟨c', ?_, q2⟩
    simp only [List.map_cons, Instr.fill, hpl]
    rw [if_neg (by simp; omega)]
    exact q1
theorem info_zero {t : TypeId} {zv : Value} (h : ∀ w, (zeroValue t).run P w = .ok zv w) (w : World) : ∃ it, P.info? t = some it ∧ it.zero = some zv := by
  have h := h w
  cases hi : P.info? t with
  | none => simp [zeroValue, typeInfo, hi] at h
  | some it =>
    cases hz : it.zero with
    | none => simp [zeroValue, typeInfo, hi, hz] at h
    | some z => simp [zeroValue, typeInfo, hi, hz] at h; exact ⟨it, rfl, by rw [hz, h]⟩
theorem info_size {t : TypeId} {s : Nat} (h : ∀ w, (sizeOf t).run P w = .ok s w) (w : World) : ∃ it, P.info? t = some it ∧ it.size = s := by
  have h := h w
  cases hi : P.info? t with
  | none => simp [sizeOf, typeInfo, hi] at h
  | some it => simp [sizeOf, typeInfo, hi] at h; exact ⟨it, rfl, h⟩
theorem places {fields : List Field} {fs : List Fd} (w : World) (hl : fs.length = fields.length) (hf : ∀ (i : Nat) fd, fs[i]? = some fd → ∃ F, fields[i]? = some F ∧ F.offset = fd.off ∧ ∀ w, (sizeOf F.type).run P w = .ok fd.sz w) :
    fields.mapM (fun f => (P.info? f.type).map fun i => (f.offset, i.size)) = some (fs.map fun fd => (fd.off, fd.sz)) := by
  induction fields generalizing fs with
  | nil => cases fs with
    | nil => rfl
    | cons a b => simp at hl
  | cons F fields ih => cases fs with
    | nil => simp at hl
    | cons fd fs =>
      obtain ⟨F', h1, h2, h3⟩ := hf 0 fd rfl
      simp at h1; subst h1
      obtain ⟨it, h4, h5⟩ := info_size h3 w
      rw [List.mapM_cons, ih (fs := fs) (by simpa using hl) (fun i fd h => hf (i + 1) fd (by simpa using h)), h4]
      simp [h2, h5]
include hb hty in
theorem ok_build {t : Nat} {ps : Array (Nat × Operand)} (ho : o.op = .build t ps) : OpOk Good P n E o (oBuild t ps) := fun R H a k h => by
  rcases onSome_cases h with ⟨i, hi, h⟩ | ⟨_, h⟩
  rotate_left
  · exact absurd h hb
  have I := hty t i hi
  have T := I.d
  obtain ⟨zv, hz1, hz2, hz3⟩ := I.zero
  have hzl : i.z.length = i.sz := by rw [hz2]; simpa using hz3
  have hlist : ∀ act : Act, (ps.map fun (i, x) => (i, act.eval x)).toList = ps.toList.map fun p => (p.1, act.eval p.2) := fun act => by simp
  rcases tyStruct_cases h with ⟨fs, hd, h⟩ | h
  · rw [hd] at T
    obtain ⟨fields, hu, hf, hfl⟩ := T
    obtain ⟨ys, h, hy⟩ := fillParts_cases (n := n) (place := fun j => (fs.map fun fd => (fd.off, fd.sz))[j]?) hb (fun j g hg => by
      rcases onSome_cases hg with ⟨fd, hfd, hg⟩ | ⟨_, hg⟩
      · rw [nth_eq] at hfd
        exact ⟨fd.off, fd.sz, by simp [hfd], hg⟩
      · exact absurd hg hb) hzl h
    refine ⟨_, H, a, opS_pure fun F g act w _ hp => ?_, h⟩
    obtain ⟨c, h1, h2⟩ := hy _ g act w zv.cells hp (by rw [hz2]; exact repL_norm1 _)
    obtain ⟨it, h3, h4⟩ := info_zero hz1 w
    have hpl := places (P := P) (fields := fields.toList) (fs := fs) w (by simpa using hfl) (fun i fd hfd => by
      obtain ⟨F, f1, f2, f3, _⟩ := hf i fd hfd
      exact ⟨F, by simpa using f1, f2, f3⟩)
    have hbt : P.built t (ps.map fun (i, x) => (i, act.eval x)).toList = some c := by
      unfold Program.built
      rw [h3, hu, hlist]
      simp only [h4, hpl]
      simpa using h1
    refine ⟨.agg c, by simp [execOp, ho, run_build w t _ c hbt], ?_⟩
    simp only [Rep]
    exact ⟨c, rfl, h2⟩
  · rcases tyArr0_cases h with ⟨len, s, ag, hd, h⟩ | h
    rotate_left
    · exact absurd h hb
    rw [hd] at T
    obtain ⟨e, hu, hse, _⟩ := T
    obtain ⟨ys, h, hy⟩ := fillParts_cases (n := n) (place := fun j => some (j * s, s)) hb (fun j g hg => ⟨j * s, s, rfl, hg⟩) hzl h
    refine ⟨_, H, a, opS_pure fun F g act w _ hp => ?_, h⟩
    obtain ⟨c, h1, h2⟩ := hy _ g act w zv.cells hp (by rw [hz2]; exact repL_norm1 _)
    obtain ⟨it, h3, h4⟩ := info_zero hz1 w
    obtain ⟨ie, h5, h6⟩ := info_size hse w
    have hbt : P.built t (ps.map fun (i, x) => (i, act.eval x)).toList = some c := by
      unfold Program.built
      rw [h3, hu, hlist]
      simp only [h4, h5, h6]
      exact h1
    refine ⟨.agg c, by simp [execOp, ho, run_build w t _ c hbt], ?_⟩
    simp only [Rep]
    exact ⟨c, rfl, h2⟩
end
end Go.Ex
namespace Go.Ex
open Go Go.Am
section
variable {ρ : Type} {Good : ρ → Prop} {P : Program} {n : Nat}
variable {E : Env ρ} {o : Oper} (hb : ¬ Good E.bad) (hty : ∀ t i, E.ty.get t = some i → TyOk P t i)
theorem write_row {g : Gh} {H : AHeap} {w : World} {ob m j : Nat} {c : T AV} {l : Am.Loc} {ys : List AV} {vs : List Value} (hs : Sim g H w) (hH : H ob = some (XO.cel m c).ao) (hl : g.loc ob = some l)
    (hle : j + ys.length ≤ m) (hr : RepL g ys vs) (hone : ∀ v ∈ vs, one v) :
    ∃ w', (storeCells ⟨l.blk, l.base + j, none⟩ vs).run P w = .ok () w' ∧ Sim g (H.set ob (XO.cel m (c.putL j ys)).ao) w' := by
  obtain ⟨cv, e, fz, k1, k2, k3, k4⟩ := row_of hs hH (fun _ h => by cases h) hl
  have hfit := k4.1
  rw [seg_length] at hfit
  have hlen := repL_length _ _ hr
  obtain ⟨c', q1, q2, q3, q4⟩ := run_storeCells_row (P := P) vs 0 (w := w) (b := l.blk) (off := l.base + j) k1 k3 (by omega) hone
  simp only [Nat.add_zero] at q3 q4
  refine ⟨w.setRow l.blk c', q1, hs.write (same_setRow _ _ _) hH hl (fun b hb => setRow_other w _ _ _ hb) (heap_setRow k1) (by omega) (fun j hj => k3 j (by omega)) ?_⟩
  show RepC g (.cel ((c.putL j ys).seg .unk 0 m)) c' l.base
  rw [putL_cells c m j ys hle]
  refine ⟨by simp [Am.putAt, seg_length]; omega, ?_⟩
  rw [repAt_iff]
  intro q z hq
  have hlt := (List.getElem?_eq_some_iff.1 hq).1
  have hall := (repAt_iff _ _ _).1 k4.2
  simp only [Am.putAt] at hq hlt
  by_cases c1 : q < j
  · rw [List.append_assoc, List.getElem?_append_left (by simp [seg_length]; omega), List.getElem?_take, if_pos c1] at hq
    rw [q3 _ (.inl (by omega))]
    exact hall q z hq
  · by_cases c2 : q < j + ys.length
    · rw [List.append_assoc, List.getElem?_append_right (by simp [seg_length]; omega), List.getElem?_append_left (by simp [seg_length]; omega)] at hq
      have hmin : ((c.seg .unk 0 m).take j).length = j := by simp [seg_length]; omega
      rw [hmin] at hq
      obtain ⟨u, hu', hr'⟩ := ((repL_iff _ _).1 hr).2 _ z hq
      refine ⟨u, ?_, hone u (List.mem_of_getElem? hu'), hr'⟩
      have := q4 (q - j) (by omega)
      rw [show l.base + j + (q - j) = l.base + q from by omega] at this
      rw [this]; exact hu'
    · rw [List.getElem?_append_right (by simp [seg_length]; omega)] at hq
      have hmin : ((c.seg .unk 0 m).take j ++ ys).length = j + ys.length := by simp [seg_length]; omega
      rw [hmin, List.getElem?_drop] at hq
      rw [q3 _ (.inr (by omega))]
      have := hall _ z hq
      rwa [show j + ys.length + (q - (j + ys.length)) = q from by omega] at this
theorem rep_len (xs : List AV) : ∀ n, (rep xs n).length = n * xs.length
  | 0 => by show ([] : List AV).length = _; simp
  | n + 1 => by
    show (xs ++ rep xs n).length = _
    rw [List.length_append, rep_len xs n, Nat.succ_mul]; omega
theorem repL_rep {g : Gh} {xs : List AV} {vs : List Value} (h : RepL g xs vs) : ∀ n, RepL g (rep xs n) (List.replicate n vs).flatten
  | 0 => by show RepL g [] _; simp [RepL]
  | n + 1 => by
    show RepL g (xs ++ rep xs n) _
    rw [List.replicate_succ, List.flatten_cons]
    exact repL_append h (repL_rep h n)
  where repL_append {g : Gh} : ∀ {xs ys : List AV} {vs ws : List Value}, RepL g xs vs → RepL g ys ws → RepL g (xs ++ ys) (vs ++ ws)
  | [], ys, vs, ws, h, k => by simp only [RepL] at h; subst h; exact k
  | x :: xs, ys, vs, ws, h, k => by
    simp only [RepL] at h
    obtain ⟨u, us, rfl, h1, h2⟩ := h
    simp only [List.cons_append, RepL]
    exact ⟨u, _, rfl, h1, repL_append h2 k⟩
theorem zeroCells_flat (z : Array Value) (n : Nat) : (Builtin.zeroCells z n).toList = (List.replicate n z.toList).flatten := by
  induction n with
  | zero => simp [Builtin.zeroCells]
  | succ n ih =>
    rw [List.replicate_succ', List.flatten_append, ← ih]
    apply List.ext_getElem?
    intro i
    simp only [Builtin.zeroCells, List.flatten_cons, List.flatten_nil, List.append_nil]
    by_cases h0 : z.size = 0
    · have hz : z = #[] := Array.eq_empty_of_size_eq_zero h0
      subst hz; simp
    · have hn : (n + 1) * z.size = n * z.size + z.size := Nat.succ_mul _ _
      by_cases h1 : i < n * z.size
      · rw [List.getElem?_append_left (by simp; omega)]
        simp [h1, show i < (n + 1) * z.size from by omega]
      · rw [List.getElem?_append_right (by simp; omega)]
        simp only [Array.length_toList, Array.size_map, Array.size_range]
        by_cases h2 : i < (n + 1) * z.size
        · have hm : i % z.size = i - n * z.size := by
            have e : i = z.size * n + (i - n * z.size) := by rw [Nat.mul_comm]; omega
            have h5 : i - n * z.size < z.size := by omega
            generalize i - n * z.size = r at e h5
            rw [e, Nat.mul_add_mod, Nat.mod_eq_of_lt h5]
          have h3 : i - n * z.size < z.size := by omega
          simp [h2, hm, h3]
        · have h3 : ¬ i - n * z.size < z.size := by omega
          simp [h2, h3]
include hb hty in
theorem ok_clear {args : Array Operand} {ats : Array TypeId} (ho : o.op = .call { callee := .builtin .clear, args := args, argTypes := ats }) : OpOk Good P n E o (bClear args.toList ats.toList) := fun R H a k h => by
  rcases one_cases h with ⟨x, hx0, h⟩ | h
  rotate_left
  · exact absurd h hb
  rcases one_cases h with ⟨t, ht0, h⟩ | h
  rotate_left
  · exact absurd h hb
  have hx1 : args = #[x] := by rw [← Array.toArray_toList (xs := args), hx0]
  have ht1 : ats = #[t] := by rw [← Array.toArray_toList (xs := ats), ht0]
  subst hx1; subst ht1
  rcases onSome_cases h with ⟨i, hi, h⟩ | ⟨_, h⟩
  rotate_left
  · exact absurd h hb
  have T := (hty t i hi).d
  rcases tySlice_cases h with ⟨s, by_, zz, hd, h⟩ | h
  rotate_left
  · exact absurd h hb
  rw [hd] at T
  obtain ⟨e, hu, hel, _⟩ := T
  obtain ⟨zv, hz1, hz2, hz3, hz4⟩ := hel
  rcases asVwn_cases h with ⟨ob, s', off, len, hx, h⟩ | h
  rotate_left
  · exact absurd h hb
  rcases natOn_cases h with ⟨h0, h⟩ | ⟨m, h0, h⟩
  · refine ⟨_, H, a, opS_pure fun F g act w _ hp => ?_, h⟩
    have hv := ev_is hp hx
    simp only [Rep] at hv
    refine ⟨.tuple #[], ?_, by simp only [Rep]⟩
    rcases hv with ⟨l, cap, k1, k2, k3, k4⟩ | ⟨_, ad, k2⟩
    · simp [execOp, ho, resolve, invoke, Go.builtin, Builtin.clear_, k2, h0, run_underlying hu, Result.andThen]
    · simp [execOp, ho, resolve, invoke, Go.builtin, Builtin.clear_, k2, run_underlying hu, Result.andThen]
  · rcases atCel_cases h with ⟨q, c, hH, h⟩ | h
    rotate_left
    · exact absurd h hb
    rcases ble_cases h with ⟨hle, h⟩ | h
    rotate_left
    · exact absurd h hb
    refine ⟨_, _, _, opS_putv (by rw [hof_get hH]; rfl) fun F g act w hd hp => ?_, h⟩
    have hv := ev_is hp hx
    simp only [Rep] at hv
    rcases hv with ⟨l, cap, k1, k2, k3, k4⟩ | ⟨h, _⟩
    rotate_left
    · omega
    have hrl := repL_rep (g := g) (show RepL g zz zv.cells.toList by rw [hz3]; exact repL_norm1 _) len
    have hzl : zz.length = s := by rw [hz3]; simpa using hz2
    have hone : ∀ v ∈ (List.replicate len zv.cells.toList).flatten, one v := fun v hv => by
      obtain ⟨l, hl, hv⟩ := List.mem_flatten.1 hv
      rw [List.eq_of_mem_replicate hl] at hv
      have hr0 : RepL g zz zv.cells.toList := by rw [hz3]; exact repL_norm1 _
      obtain ⟨q, hq, rfl⟩ := List.getElem_of_mem hv
      have hl0 := repL_length _ _ hr0
      obtain ⟨u', hu', hr'⟩ := ((repL_iff _ _).1 hr0).2 q _ (List.getElem?_eq_getElem (by omega))
      rw [List.getElem?_eq_getElem hq] at hu'
      cases hu'
      exact rep_one (List.all_eq_true.1 hz4 _ (List.getElem_mem _)) hr'
    obtain ⟨w', hrun, hs⟩ := write_row (P := P) (j := off) hp.sim (join_get hH) k1 (by rw [rep_len, hzl]; omega) hrl hone
    refine ⟨.tuple #[], w', ?_, by simp only [Rep], hs⟩
    have hzr : (zeroValue e).run P w = .ok zv w := by
      cases hi : P.info? e with
      | none => simp [hi] at hz1
      | some it =>
        simp [hi] at hz1
        simp [zeroValue, typeInfo, hi, hz1.1]
    have hzc := zeroCells_flat zv.cells len
    subst h0
    simp [execOp, ho, resolve, invoke, Go.builtin, Builtin.clear_, k2, run_underlying hu, Result.andThen, hzr, hzc, hrun]
include hb hty in
theorem ok_copy {args : Array Operand} {ats : Array TypeId} (ho : o.op = .call { callee := .builtin .copy, args := args, argTypes := ats }) : OpOk Good P n E o (bCopy args.toList ats.toList) := fun R H a k hh => by
  rcases two_cases hh with ⟨x, y, hx0, h⟩ | h
  rotate_left
  · exact absurd h hb
  rcases listOn_cases h with ⟨_, h⟩ | ⟨t, ts, ht0, h⟩
  · exact absurd h hb
  have hx1 : args = #[x, y] := by rw [← Array.toArray_toList (xs := args), hx0]
  have ht1 : ats[0]? = some t := by rw [← Array.getElem?_toList, ht0]; rfl
  subst hx1
  rcases onSome_cases h with ⟨i, hi, h⟩ | ⟨_, h⟩
  rotate_left
  · exact absurd h hb
  have T := (hty t i hi).d
  rcases tySlice_cases h with ⟨sz, by_, zz, hd, h⟩ | h
  rotate_left
  · exact absurd h hb
  rw [hd] at T
  obtain ⟨e, hu, hel, _⟩ := T
  obtain ⟨zv, hT, _⟩ := hel.sliceT hu
  obtain ⟨inf, i1, i2, i3, i4⟩ := hT.info
  rcases asVwn_cases h with ⟨ob, s', off, len, hx, h⟩ | h
  rotate_left
  · exact absurd h hb
  obtain ⟨m, ys, h, hyl, hsrc⟩ := src_ok (P := P) hb h
  rcases ble_cases h with ⟨hml, h⟩ | h
  rotate_left
  · exact absurd h hb
  have run : ∀ (act : Act) (w w' : World) (news : Array Value) (ad : Addr) (cap : Nat), act.eval x = .slice (some ad) len cap → (Builtin.lenOf (act.eval y)).run P w = .ok m w → (Builtin.firstCells sz m (act.eval y)).run P w = .ok news w →
      (storeCells ad news.toList).run P w = .ok () w' → (execOp act.eval o).run P w = .ok (.value (.int .i64 (m : Int))) w' := fun act w w' news ad cap hv h1 h2 h3 => by
    have hmin : Nat.min m len = m := Nat.min_eq_left hml
    simp [execOp, ho, resolve, invoke, Go.builtin, hv, Builtin.copy_, ht1, run_underlying hu, sizeOf, typeInfo, i1, i3, h1, hmin, h2, h3, goInt]
  rcases natOn_cases h with ⟨h0, h⟩ | ⟨m', h0, h⟩
  · refine ⟨_, H, a, opS_pure fun F g act w _ hp => ?_, h⟩
    have hv := ev_is hp hx
    simp only [Rep] at hv
    obtain ⟨ad, cap, hv⟩ : ∃ ad cap, act.eval x = .slice (some ad) len cap := by
      rcases hv with ⟨l, cap, k1, k2, k3, k4⟩ | ⟨rfl, ad, k2⟩
      · exact ⟨_, _, k2⟩
      · exact ⟨_, _, k2⟩
    have S := hsrc F g w _ hp.sim (ev_rep hp y)
    obtain ⟨news, n1, n2, n3, n4⟩ := S.cells
    have hn : news.toList = [] := by
      have : news.size = 0 := by rw [n1]; simp only [AO.len]; rw [hyl, h0, Nat.zero_mul]
      exact List.eq_nil_of_length_eq_zero (by simpa using this)
    refine ⟨.int .i64 (m : Int), run act w w news ad cap hv (S.lenOf w) (n4 w rfl) (by rw [hn]; rfl), ?_⟩
    subst h0
    simp only [iN, Rep]; rfl
  · rcases atCel_cases h with ⟨q, c, hH, h⟩ | h
    rotate_left
    · exact absurd h hb
    rcases ble_cases h with ⟨hle, h⟩ | h
    rotate_left
    · exact absurd h hb
    refine ⟨_, _, _, opS_putv (by rw [hof_get hH]; rfl) fun F g act w hd hp => ?_, h⟩
    have hv := ev_is hp hx
    simp only [Rep] at hv
    rcases hv with ⟨l, cap, k1, k2, k3, k4⟩ | ⟨h, _⟩
    rotate_left
    · omega
    have S := hsrc F g w _ hp.sim (ev_rep hp y)
    obtain ⟨news, n1, n2, n3, n4⟩ := S.cells
    simp only [AO.len] at n1
    have hrl : RepL g ys news.toList := by
      refine (repL_iff _ _).2 ⟨by simpa using n1, fun i x hi => ?_⟩
      obtain ⟨u, hu, _, hr⟩ := (repAt_iff _ _ _).1 n2.2 i x hi
      exact ⟨u, by simpa using hu, hr⟩
    obtain ⟨w', hrun, hs⟩ := write_row (P := P) (j := off) hp.sim (join_get hH) k1 (by omega) hrl (fun v hv => n3 v (by simpa using hv))
    exact ⟨.int .i64 (m : Int), w', run act w w' news _ cap k2 (S.lenOf w) (n4 w rfl) hrun, by simp only [iN, Rep]; rfl, hs⟩
include hb hty in
theorem ok_cap {args : Array Operand} {ats : Array TypeId} (ho : o.op = .call { callee := .builtin .cap, args := args, argTypes := ats }) : OpOk Good P n E o (bCap args.toList ats.toList) := fun R H a k h => by
  rcases one_cases h with ⟨x, hx0, h⟩ | h
  rotate_left
  · exact absurd h hb
  rcases one_cases h with ⟨t, ht0, h⟩ | h
  rotate_left
  · exact absurd h hb
  have hx1 : args = #[x] := by rw [← Array.toArray_toList (xs := args), hx0]
  have ht1 : ats = #[t] := by rw [← Array.toArray_toList (xs := ats), ht0]
  subst hx1; subst ht1
  rcases onSome_cases h with ⟨i, hi, h⟩ | ⟨_, h⟩
  rotate_left
  · exact absurd h hb
  have T := (hty t i hi).d
  rcases tySlice_cases h with ⟨s, by_, zz, hd, h⟩ | h
  rotate_left
  · exact absurd h hb
  rw [hd] at T
  obtain ⟨e, hu, hel, _⟩ := T
  have fin : Good (k (iN 0) H a) → (∀ g v, Rep g (ev x R) v → ∃ ad, v = .slice ad 0 0) → ∃ x' H' b, OpS P n o R H a x' H' b ∧ Good (k x' H' b) := fun hg hv => by
    refine ⟨_, H, a, opS_pure fun F g act w _ hp => ?_, hg⟩
    obtain ⟨ad, he⟩ := hv g _ (ev_rep hp x)
    exact ⟨.int .i64 0, by simp [execOp, ho, resolve, invoke, Go.builtin, he, Builtin.cap_, run_underlying hu, goInt], by simp only [iN, Rep]; rfl⟩
  rcases asNilS_cases h with ⟨hx, h⟩ | h
  · refine fin h fun g v hv => ?_
    rw [hx] at hv
    simp only [Rep] at hv
    exact ⟨_, hv⟩
  · rcases asEmp_cases h with ⟨hx, h⟩ | h
    rotate_left
    · exact absurd h hb
    refine fin h fun g v hv => ?_
    rw [hx] at hv
    simpa only [Rep] using hv
end
end Go.Ex
namespace Go.Ex
open Go Go.Am
section
variable {ρ : Type} {Good : ρ → Prop} {P : Program} {n : Nat}
variable {E : Env ρ} {o : Oper} (hb : ¬ Good E.bad) (hty : ∀ t i, E.ty.get t = some i → TyOk P t i)
theorem getS_eq {ks : List UInt8} {f : AV → ρ} {no : ρ} : ∀ es : MS, getS ks es f no = (match es.get ks with | some v => f v | none => no)
  | [] => rfl
  | (a, v) :: es => by
    show ifb (strEq a ks) (f v) (getS ks es f no) = _
    rw [strEq_spec, getS_eq es]
    by_cases h : a = ks
    · simp [MS.get, h, ifb]
    · simp [MS.get, h, ifb]
theorem putS_eq {ks : List UInt8} {v : AV} : ∀ (es : MS) (f : MS → ρ), putS ks v es f = f (es.put ks v)
  | [], f => rfl
  | (a, u) :: es, f => by
    show ifb (strEq a ks) (f ((ks, v) :: es)) (putS ks v es (fun l => f ((a, u) :: l))) = _
    rw [strEq_spec, putS_eq es]
    by_cases h : a = ks
    · simp [MS.put, h, ifb]
    · simp [MS.put, h, ifb]
theorem run_lookS {t k e : TypeId} (hT : P.underlying t = some (.map k e)) (hK : P.underlying k = some .string) {zv : Value} (hZ : ∀ w, (zeroValue e).run P w = .ok zv w) {g : Gh} {H : AHeap} {w : World} (hs : Sim g H w) {mv : Value} {ob : Nat} (hm : Rep g (.mp ob) mv) {es : MS} (hH : H ob = some es.ao) (ks : List UInt8) (c : Bool) :
    ∃ u, (Instr.lookup t mv (kS ks) c).run P w = .ok (if c then .tuple #[u, .bool (es.get ks).isSome] else u) w ∧ (match es.get ks with | some v => Rep g v u | none => u = zv) := by
  obtain ⟨l, hl, he⟩ := loc_of_mp hm
  obtain ⟨l', es', clock, q1, q2, q3, q4, q5⟩ := repO_map (hs.objs ob _ hH)
  rw [hl] at q1; cases q1
  have h2 := MapKept.run_getObj_map (P := P) q2
  cases hg : es.get ks with
  | none =>
    have hf := findNow_none es es'.toList 0 q3 hg
    refine ⟨zv, ?_, rfl⟩
    simp [he, Instr.lookup, run_underlying hT, h2, Result.andThen, ck_str hK, MapKept.run_findKey hK hf, hZ]
  | some u =>
    obtain ⟨j, m', e1, e2, e3, e4⟩ := findNow_some es es'.toList 0 q3 hg
    refine ⟨m'.val, ?_, e4⟩
    simp [he, Instr.lookup, run_underlying hT, h2, Result.andThen, ck_str hK, MapKept.run_findKey hK e1]
theorem run_lookS0 {t k e : TypeId} (hT : P.underlying t = some (.map k e)) (hK : P.underlying k = some .string) {zv : Value} (hZ : ∀ w, (zeroValue e).run P w = .ok zv w) (w : World) (ks : List UInt8) (c : Bool) :
    (Instr.lookup t (.map none) (kS ks) c).run P w = .ok (if c then .tuple #[zv, .bool false] else zv) w := by
  have hf := findNow_none (g := ⟨w, fun _ => none, fun _ => none⟩) (k := ks) [] [] 0 rfl rfl
  simp [Instr.lookup, run_underlying hT, Result.andThen, ck_str hK, MapKept.run_findKey hK hf, hZ]
theorem run_updS {t k e : TypeId} (hT : P.underlying t = some (.map k e)) (hK : P.underlying k = some .string) {g : Gh} {H : AHeap} {w : World} (hs : Sim g H w) {mv yv : Value} {ob : Nat} (hm : Rep g (.mp ob) mv) {es : MS} (hH : H ob = some es.ao) (ks : List UInt8) {v : AV} (hv : Rep g v yv) :
    ∃ w', (Instr.mapUpdate t mv (kS ks) yv).run P w = .ok () w' ∧ Sim g (H.set ob (es.put ks v).ao) w' := by
  obtain ⟨l, hl, he⟩ := loc_of_mp hm
  obtain ⟨l', es', clock, q1, q2, q3, q4, q5⟩ := repO_map (hs.objs ob _ hH)
  rw [hl] at q1; cases q1
  have h2 := MapKept.run_getObj_map (P := P) q2
  have hlt := (Array.getElem?_eq_some_iff.1 q2).1
  cases hg : es.get ks with
  | none =>
    have hf := findNow_none es es'.toList 0 q3 hg
    refine ⟨{ w with heap := w.heap.setIfInBounds l.blk (.map (es'.push { key := kS ks, val := yv, born := clock }) (clock + 1)) }, ?_, ?_⟩
    · simp [he, Instr.mapUpdate, run_underlying hT, h2, ck_str hK, MapKept.run_findKey hK hf, MapKept.run_setObj_map _ q2, Result.andThen]
    · refine hs.writeO (w' := { w with heap := w.heap.setIfInBounds l.blk (.map (es'.push { key := kS ks, val := yv, born := clock }) (clock + 1)) }) ⟨rfl, rfl, rfl⟩ hH hl (fun b hb => by simp [Ne.symm hb]) (.inr (.inr (.inl ⟨l, _, es'.push { key := kS ks, val := yv, born := clock }, clock + 1, rfl, hl, heap_put hlt _, ?_, ?_, ⟨?_, ms_ok _⟩⟩)))
      · have := rep_put_new (c := clock) hv es es'.toList q3 hg
        simpa [RepM, Array.toList_push] using this
      · intro m hm
        rcases Array.mem_push.1 hm with h | rfl
        · have := q4 m h; omega
        · exact Nat.lt_succ_self _
      · rw [Array.toList_push, List.map_append, List.nodup_append]
        refine ⟨q5, by simp, fun b hb c hc => ?_⟩
        obtain ⟨m', hm', rfl⟩ := List.mem_map.1 hb
        have := q4 m' (by simpa using hm')
        simp at hc
        omega
  | some u =>
    obtain ⟨m', e1, e2, e3, e4⟩ := findNow_idx es es'.toList 0 q3 hg
    rw [Nat.zero_add] at e1
    have e2' : es'[MS.idx es ks]? = some m' := by simpa using e2
    refine ⟨{ w with heap := w.heap.setIfInBounds l.blk (.map (es'.modify (MS.idx es ks) fun e => { e with key := kS ks, val := yv }) clock) }, ?_, ?_⟩
    · simp [he, Instr.mapUpdate, run_underlying hT, h2, ck_str hK, MapKept.run_findKey hK e1, MapKept.run_setObj_map _ q2, Result.andThen, e2', e3, Instr.keyThatStays, Instr.sameBits, kS_self, beq_self_eq_true, Bool.and_self]
    · refine hs.writeO (w' := { w with heap := w.heap.setIfInBounds l.blk (.map (es'.modify (MS.idx es ks) fun e => { e with key := kS ks, val := yv }) clock) }) ⟨rfl, rfl, rfl⟩ hH hl (fun b hb => by simp [Ne.symm hb]) (.inr (.inr (.inl ⟨l, _, es'.modify (MS.idx es ks) fun e => { e with key := kS ks, val := yv }, clock, rfl, hl, heap_put hlt _, ?_, ?_, ⟨?_, ms_ok _⟩⟩)))
      · have := rep_put_old hv es es'.toList q3 hg
        simpa [RepM, Array.toList_modify] using this
      · intro m hm
        rw [Array.mem_iff_getElem?] at hm
        obtain ⟨i, hi⟩ := hm
        rw [Array.getElem?_modify] at hi
        split at hi
        · rw [Option.map_eq_some_iff] at hi
          obtain ⟨x, hx, rfl⟩ := hi
          exact q4 x (Array.mem_of_getElem? hx)
        · exact q4 m (Array.mem_of_getElem? hi)
      · have : (es'.modify (MS.idx es ks) fun e => { e with key := kS ks, val := yv }).toList.map (·.born) = es'.toList.map (·.born) := by
          rw [Array.toList_modify]
          apply List.ext_getElem?
          intro i
          simp only [List.getElem?_map, List.getElem?_modify]
          split <;> cases es'.toList[i]? <;> rfl
        rw [this]; exact q5
theorem getI_eq {ks : Int} {f : AV → ρ} {no : ρ} : ∀ es : MI, getI ks es f no = (match es.get ks with | some v => f v | none => no)
  | [] => rfl
  | (a, v) :: es => by
    show ifb (decide (a = ks)) (f v) (getI ks es f no) = _
    rw [getI_eq es]
    by_cases h : a = ks
    · simp [MI.get, h, ifb]
    · simp [MI.get, h, ifb]
theorem putI_eq {ks : Int} {v : AV} : ∀ (es : MI) (f : MI → ρ), putI ks v es f = f (es.put ks v)
  | [], f => rfl
  | (a, u) :: es, f => by
    show ifb (decide (a = ks)) (f ((ks, v) :: es)) (putI ks v es (fun l => f ((a, u) :: l))) = _
    rw [putI_eq es]
    by_cases h : a = ks
    · simp [MI.put, h, ifb]
    · simp [MI.put, h, ifb]
theorem run_lookI {t k e : TypeId} {ik : IntKind} (hT : P.underlying t = some (.map k e)) (hK : P.underlying k = some (.int ik)) {zv : Value} (hZ : ∀ w, (zeroValue e).run P w = .ok zv w) {g : Gh} {H : AHeap} {w : World} (hs : Sim g H w) {mv : Value} {ob : Nat} (hm : Rep g (.mp ob) mv) {es : MI} (hH : H ob = some (es.ao ik)) (ks : Int) (c : Bool) :
    ∃ u, (Instr.lookup t mv ((.int ik ks)) c).run P w = .ok (if c then .tuple #[u, .bool (MI.get es ks).isSome] else u) w ∧ (match es.get ks with | some v => Rep g v u | none => u = zv) := by
  obtain ⟨l, hl, he⟩ := loc_of_mp hm
  obtain ⟨l', es', clock, q1, q2, q3, q4, q5⟩ := repO_mapI (hs.objs ob _ hH)
  rw [hl] at q1; cases q1
  have h2 := MapKept.run_getObj_map (P := P) q2
  cases hg : es.get ks with
  | none =>
    have hf := findI_none (ik := ik) es es'.toList 0 q3 hg
    refine ⟨zv, ?_, rfl⟩
    simp [he, Instr.lookup, run_underlying hT, h2, Result.andThen, ck_int hK, MapKept.run_findKey hK hf, hZ]
  | some u =>
    obtain ⟨j, m', e1, e2, e3, e4⟩ := findI_some es es'.toList 0 q3 hg
    refine ⟨m'.val, ?_, e4⟩
    simp [he, Instr.lookup, run_underlying hT, h2, Result.andThen, ck_int hK, MapKept.run_findKey hK e1]
theorem run_lookI0 {t k e : TypeId} {ik : IntKind} (hT : P.underlying t = some (.map k e)) (hK : P.underlying k = some (.int ik)) {zv : Value} (hZ : ∀ w, (zeroValue e).run P w = .ok zv w) (w : World) (ks : Int) (c : Bool) :
    (Instr.lookup t (.map none) ((.int ik ks)) c).run P w = .ok (if c then .tuple #[zv, .bool false] else zv) w := by
  have hf := findI_none (ik := ik) (g := ⟨w, fun _ => none, fun _ => none⟩) (k := ks) [] [] 0 rfl rfl
  simp [Instr.lookup, run_underlying hT, Result.andThen, ck_int hK, MapKept.run_findKey hK hf, hZ]
theorem run_updI {t k e : TypeId} {ik : IntKind} (hT : P.underlying t = some (.map k e)) (hK : P.underlying k = some (.int ik)) {g : Gh} {H : AHeap} {w : World} (hs : Sim g H w) {mv yv : Value} {ob : Nat} (hm : Rep g (.mp ob) mv) {es : MI} (hH : H ob = some (es.ao ik)) (ks : Int) {v : AV} (hv : Rep g v yv) :
    ∃ w', (Instr.mapUpdate t mv ((.int ik ks)) yv).run P w = .ok () w' ∧ Sim g (H.set ob ((es.put ks v).ao ik)) w' := by
  obtain ⟨l, hl, he⟩ := loc_of_mp hm
  obtain ⟨l', es', clock, q1, q2, q3, q4, q5⟩ := repO_mapI (hs.objs ob _ hH)
  rw [hl] at q1; cases q1
  have h2 := MapKept.run_getObj_map (P := P) q2
  have hlt := (Array.getElem?_eq_some_iff.1 q2).1
  cases hg : es.get ks with
  | none =>
    have hf := findI_none (ik := ik) es es'.toList 0 q3 hg
    refine ⟨{ w with heap := w.heap.setIfInBounds l.blk (.map (es'.push { key := (.int ik ks), val := yv, born := clock }) (clock + 1)) }, ?_, ?_⟩
    · simp [he, Instr.mapUpdate, run_underlying hT, h2, ck_int hK, MapKept.run_findKey hK hf, MapKept.run_setObj_map _ q2, Result.andThen]
    · refine hs.writeO (w' := { w with heap := w.heap.setIfInBounds l.blk (.map (es'.push { key := (.int ik ks), val := yv, born := clock }) (clock + 1)) }) ⟨rfl, rfl, rfl⟩ hH hl (fun b hb => by simp [Ne.symm hb]) (.inr (.inr (.inl ⟨l, _, es'.push { key := (.int ik ks), val := yv, born := clock }, clock + 1, rfl, hl, heap_put hlt _, ?_, ?_, ⟨?_, mi_ok _⟩⟩)))
      · have := repI_put_new (ik := ik) (c := clock) hv es es'.toList q3 hg
        simpa [RepMI, Array.toList_push] using this
      · intro m hm
        rcases Array.mem_push.1 hm with h | rfl
        · have := q4 m h; omega
        · exact Nat.lt_succ_self _
      · rw [Array.toList_push, List.map_append, List.nodup_append]
        refine ⟨q5, by simp, fun b hb c hc => ?_⟩
        obtain ⟨m', hm', rfl⟩ := List.mem_map.1 hb
        have := q4 m' (by simpa using hm')
        simp at hc
        omega
  | some u =>
    obtain ⟨m', e1, e2, e3, e4⟩ := findI_idx es es'.toList 0 q3 hg
    rw [Nat.zero_add] at e1
    have e2' : es'[MI.idx es ks]? = some m' := by simpa using e2
    refine ⟨{ w with heap := w.heap.setIfInBounds l.blk (.map (es'.modify (MI.idx es ks) fun e => { e with key := (.int ik ks), val := yv }) clock) }, ?_, ?_⟩
    · simp [he, Instr.mapUpdate, run_underlying hT, h2, ck_int hK, MapKept.run_findKey hK e1, MapKept.run_setObj_map _ q2, Result.andThen, e2', e3, Instr.keyThatStays, Instr.sameBits, beq_self_eq_true, Bool.and_self]
    · refine hs.writeO (w' := { w with heap := w.heap.setIfInBounds l.blk (.map (es'.modify (MI.idx es ks) fun e => { e with key := (.int ik ks), val := yv }) clock) }) ⟨rfl, rfl, rfl⟩ hH hl (fun b hb => by simp [Ne.symm hb]) (.inr (.inr (.inl ⟨l, _, es'.modify (MI.idx es ks) fun e => { e with key := (.int ik ks), val := yv }, clock, rfl, hl, heap_put hlt _, ?_, ?_, ⟨?_, mi_ok _⟩⟩)))
      · have := repI_put_old (ik := ik) hv es es'.toList q3 hg
        simpa [RepMI, Array.toList_modify] using this
      · intro m hm
        rw [Array.mem_iff_getElem?] at hm
        obtain ⟨i, hi⟩ := hm
        rw [Array.getElem?_modify] at hi
        split at hi
        · rw [Option.map_eq_some_iff] at hi
          obtain ⟨x, hx, rfl⟩ := hi
          exact q4 x (Array.mem_of_getElem? hx)
        · exact q4 m (Array.mem_of_getElem? hi)
      · have : (es'.modify (MI.idx es ks) fun e => { e with key := (.int ik ks), val := yv }).toList.map (·.born) = es'.toList.map (·.born) := by
          rw [Array.toList_modify]
          apply List.ext_getElem?
          intro i
          simp only [List.getElem?_map, List.getElem?_modify]
          split <;> cases es'.toList[i]? <;> rfl
        rw [this]; exact q5
theorem aggZ_cases {agg : Bool} {z : List AV} {f : AV → ρ} {bad : ρ} {zv : Value} (hz : zOf agg z = some (norm zv)) (h : Good (aggOf agg z f bad)) : Good (f (norm zv)) ∨ Good bad := by
  rcases aggOf_cases h with ⟨rfl, h⟩ | ⟨x, rfl, rfl, h⟩ | h
  · simp [zOf] at hz; rw [← hz]; exact .inl h
  · simp [zOf] at hz; rw [← hz]; exact .inl h
  · exact .inr h
theorem rep_found {g : Gh} {c b : Bool} {v : AV} {u : Value} (h : Rep g v u) : Rep g (found c b v) (if c then .tuple #[u, .bool b] else u) := by
  cases c
  · exact h
  · show Rep g (.tup [v, .raw (.bool b)]) _
    simp only [Rep, if_true]
    exact ⟨_, rfl, by simp only [RepL]; exact ⟨_, _, rfl, h, _, _, rfl, by simp only [Rep], rfl⟩⟩
include hb hty in
theorem ok_lookup {t : TypeId} {x y : Operand} {c : Bool} (ho : o.op = .lookup t x y c) : OpOk Good P n E o (oLookup t x y c) := fun R H a k h => by
  rcases onSome_cases h with ⟨i, hi, h⟩ | ⟨_, h⟩
  rotate_left
  · exact absurd h hb
  have T := (hty t i hi).d
  rcases tyMap_cases h with ⟨key, agg, z, hd, h⟩ | h
  rotate_left
  · exact absurd h hb
  rw [hd] at T
  obtain ⟨kt, e, zv, hT, hK, hZ, hzo⟩ := T
  have fin : ∀ (kv : AV), ev y R = kv → ∀ v (b : Bool), Good (k (found c b v) H a) → (∀ F g act w, XPre n R (join (hof H) F) g act w → ∃ u, (Instr.lookup t (act.eval x) (act.eval y) c).run P w = .ok (if c then .tuple #[u, .bool b] else u) w ∧ Rep g v u) → ∃ x' H' b, OpS P n o R H a x' H' b ∧ Good (k x' H' b) := fun kv hkv v b hg hv => by
    refine ⟨_, H, a, opS_pure fun F g act w _ hp => ?_, hg⟩
    obtain ⟨u, hr, hu⟩ := hv F g act w hp
    exact ⟨_, by simp only [execOp, ho, Sem.run_bind, hr, Result.andThen_ok, Sem.run_pure], rep_found hu⟩
  rcases asMp_cases h with ⟨ob, hx, h⟩ | h
  · rcases onSome_cases h with ⟨ik, hk, h⟩ | ⟨hk, h⟩
    · rw [hk] at hK
      rcases atMpi_cases h with ⟨ik', es, hH, h⟩ | h
      rotate_left
      · exact absurd h hb
      rcases asInt_cases h with ⟨ik2, q, hy, h⟩ | h
      rotate_left
      · exact absurd h hb
      rcases ifb_cases h with ⟨h1, h⟩ | ⟨_, h⟩
      rotate_left
      · exact absurd h hb
      rcases ifb_cases h with ⟨h2, hz⟩ | ⟨_, h⟩
      rotate_left
      · exact absurd h hb
      have h1 : ik = ik' := by simpa [sameK] using h1
      have h2 : ik = ik2 := by simpa [sameK] using h2
      subst h1; subst h2
      have h := hz
      rw [getI_eq] at h
      have look := fun F g act w (hp : XPre n R (join (hof H) F) g act w) => run_lookI (P := P) hT hK hZ hp.sim (ev_is hp hx) (join_get hH) q c
      have hky := fun F g act w (hp : XPre n R (join (hof H) F) g act w) => ev_is hp hy
      simp only [Rep] at hky
      cases hg : MI.get es q with
      | some v =>
        rw [hg] at h
        refine fin _ hy v true h fun F g act w hp => ?_
        obtain ⟨u, h3, h4⟩ := look F g act w hp
        rw [hg] at h3 h4
        exact ⟨u, by rw [hky F g act w hp]; exact h3, h4⟩
      | none =>
        rw [hg] at h
        rcases aggZ_cases hzo h with h | h
        rotate_left
        · exact absurd h hb
        refine fin _ hy _ false h fun F g act w hp => ?_
        obtain ⟨u, h3, h4⟩ := look F g act w hp
        rw [hg] at h3 h4
        exact ⟨u, by rw [hky F g act w hp]; exact h3, by rw [h4]; exact rep_norm zv⟩
    · rw [hk] at hK
      rcases atMps_cases h with ⟨es, hH, h⟩ | h
      rotate_left
      · exact absurd h hb
      rcases asStr_cases h with ⟨q, hy, h⟩ | h
      rotate_left
      · exact absurd h hb
      rw [getS_eq] at h
      have look := fun F g act w (hp : XPre n R (join (hof H) F) g act w) => run_lookS (P := P) hT hK hZ hp.sim (ev_is hp hx) (join_get hH) q c
      have hky := fun F g act w (hp : XPre n R (join (hof H) F) g act w) => ev_is hp hy
      simp only [Rep] at hky
      cases hg : MS.get es q with
      | some v =>
        rw [hg] at h
        refine fin _ hy v true h fun F g act w hp => ?_
        obtain ⟨u, h3, h4⟩ := look F g act w hp
        rw [hg] at h3 h4
        exact ⟨u, by rw [hky F g act w hp]; exact h3, h4⟩
      | none =>
        rw [hg] at h
        rcases aggZ_cases hzo h with h | h
        rotate_left
        · exact absurd h hb
        refine fin _ hy _ false h fun F g act w hp => ?_
        obtain ⟨u, h3, h4⟩ := look F g act w hp
        rw [hg] at h3 h4
        exact ⟨u, by rw [hky F g act w hp]; exact h3, by rw [h4]; exact rep_norm zv⟩
  · rcases asNilM_cases h with ⟨hx, h⟩ | h
    rotate_left
    · exact absurd h hb
    rcases onSome_cases h with ⟨ik, hk, h⟩ | ⟨hk, h⟩
    · rw [hk] at hK
      rcases asInt_cases h with ⟨ik2, q, hy, h⟩ | h
      rotate_left
      · exact absurd h hb
      rcases ifb_cases h with ⟨h2, hz⟩ | ⟨_, h⟩
      rotate_left
      · exact absurd h hb
      have h2 : ik = ik2 := by simpa [sameK] using h2
      subst h2
      have h := hz
      rcases aggZ_cases hzo h with h | h
      rotate_left
      · exact absurd h hb
      refine fin _ hy _ false h fun F g act w hp => ?_
      have h1 := ev_is hp hx
      have h2 := ev_is hp hy
      simp only [Rep] at h1 h2
      exact ⟨zv, by rw [h1, h2]; exact run_lookI0 hT hK hZ w q c, rep_norm zv⟩
    · rw [hk] at hK
      rcases asStr_cases h with ⟨q, hy, h⟩ | h
      rotate_left
      · exact absurd h hb
      rcases aggZ_cases hzo h with h | h
      rotate_left
      · exact absurd h hb
      refine fin _ hy _ false h fun F g act w hp => ?_
      have h1 := ev_is hp hx
      have h2 := ev_is hp hy
      simp only [Rep] at h1 h2
      exact ⟨zv, by rw [h1, h2]; exact run_lookS0 hT hK hZ w q c, rep_norm zv⟩
include hb hty in
theorem ok_mapUpdate {t : TypeId} {x y v : Operand} (ho : o.op = .mapUpdate t x y v) : OpOk Good P n E o (oMapUpdate t x y v) := fun R H a k h => by
  rcases onSome_cases h with ⟨i, hi, h⟩ | ⟨_, h⟩
  rotate_left
  · exact absurd h hb
  have T := (hty t i hi).d
  rcases tyMap_cases h with ⟨key, agg, z, hd, h⟩ | h
  rotate_left
  · exact absurd h hb
  rw [hd] at T
  obtain ⟨kt, e, zv, hT, hK, hZ, hzo⟩ := T
  rcases asMp_cases h with ⟨ob, hx, h⟩ | h
  rotate_left
  · exact absurd h hb
  rcases onSome_cases h with ⟨ik, hk, h⟩ | ⟨hk, h⟩
  · rw [hk] at hK
    rcases atMpi_cases h with ⟨ik', es, hH, h⟩ | h
    rotate_left
    · exact absurd h hb
    rcases asInt_cases h with ⟨ik2, q, hy, h⟩ | h
    rotate_left
    · exact absurd h hb
    rcases ifb_cases h with ⟨h1, h⟩ | ⟨_, h⟩
    rotate_left
    · exact absurd h hb
    rcases ifb_cases h with ⟨h2, hz⟩ | ⟨_, h⟩
    rotate_left
    · exact absurd h hb
    have h1 : ik = ik' := by simpa [sameK] using h1
    have h2 : ik = ik2 := by simpa [sameK] using h2
    subst h1; subst h2
    have h := hz
    rw [putI_eq] at h
    refine ⟨_, _, _, opS_put (by rw [hof_get hH]; rfl) fun F g act w hd hp => ?_, h⟩
    have h2 := ev_is hp hy
    simp only [Rep] at h2
    obtain ⟨w', h3, h4⟩ := run_updI (P := P) hT hK hp.sim (ev_is hp hx) (join_get hH) q (ev_rep hp v)
    exact ⟨w', by simp only [execOp, ho, h2, Sem.run_bind, h3, Result.andThen_ok, Sem.run_pure], h4⟩
  · rw [hk] at hK
    rcases atMps_cases h with ⟨es, hH, h⟩ | h
    rotate_left
    · exact absurd h hb
    rcases asStr_cases h with ⟨q, hy, h⟩ | h
    rotate_left
    · exact absurd h hb
    rw [putS_eq] at h
    refine ⟨_, _, _, opS_put (by rw [hof_get hH]; rfl) fun F g act w hd hp => ?_, h⟩
    have h2 := ev_is hp hy
    simp only [Rep] at h2
    obtain ⟨w', h3, h4⟩ := run_updS (P := P) hT hK hp.sim (ev_is hp hx) (join_get hH) q (ev_rep hp v)
    exact ⟨w', by simp only [execOp, ho, h2, Sem.run_bind, h3, Result.andThen_ok, Sem.run_pure], h4⟩
include hb hty in
theorem ok_makeMap {t : TypeId} {r : Option Operand} (ho : o.op = .makeMap t r) : OpOk Good P n E o (oMakeMap t r) := fun R H a k h => by
  rcases onSome_cases h with ⟨i, hi, h⟩ | ⟨_, h⟩
  rotate_left
  · exact absurd h hb
  have T := (hty t i hi).d
  rcases tyMap_cases h with ⟨key, agg, z, hd, h⟩ | h
  rotate_left
  · exact absurd h hb
  rw [hd] at T
  obtain ⟨kt, e, zv, hT, hK, hZ, hzo⟩ := T
  rcases optNat_cases h with ⟨r', hr, h⟩ | h
  rotate_left
  · exact absurd h hb
  have run : ∀ F g act w, XPre n R (join (hof H) F) g act w → (execOp act.eval o).run P w = .ok (.value (.map (some w.heap.size))) (w.alloc (.map #[] 0)) := fun F g act w hp => by
    rcases hr.val hp with ⟨h1, _⟩ | ⟨kd, m, h1, _⟩
    · simp [execOp, ho, h1, Instr.makeMap]; try rfl
    · simp [execOp, ho, h1, Instr.makeMap, run_underlying hT, Go.asInt]; try rfl
  have new : ∀ (y : XO), y.ao = .mpo [] → Good (k (.mp a) (H.put a y) (a + 1)) → ∃ x' H' b, OpS P n o R H a x' H' b ∧ Good (k x' H' b) := fun y hy hg => by
    refine ⟨_, _, _, opS_new fun F g act w hd hp hl => ?_, hg⟩
    refine ⟨_, _, _, run F g act w hp, ⟨g.le_at hl ⟨w.heap.size, 0, 0⟩, fun p hp => by simp [Gh.at]; omega⟩, by simp only [Rep]; exact ⟨_, Gh.at_self _ _ _, rfl⟩, ?_⟩
    rw [hy]
    refine hp.sim.newO (w' := w.alloc (.map #[] 0)) ⟨rfl, rfl, rfl⟩ rfl hl ?_
    exact .inr (.inr (.inl ⟨_, [], #[], 0, rfl, Gh.at_self _ _ _, by show (w.heap.push _)[w.heap.size]? = _; simp, rfl, fun m hm => by simp at hm, by simp⟩))
  rcases onSome_cases h with ⟨ik, hk, h⟩ | ⟨hk, h⟩
  · exact new _ rfl h
  · exact new _ rfl h
end
end Go.Ex
namespace Go.Ex
open Go Go.Am
section
variable {ρ : Type} {Good : ρ → Prop} {P : Program} {n : Nat}
variable {E : Env ρ} {o : Oper} (hb : ¬ Good E.bad) (hty : ∀ t i, E.ty.get t = some i → TyOk P t i)
def CallOk (Good : ρ → Prop) (P : Program) (call : CallF ρ) : Prop :=
  ∀ f args H a k, Good (call f args H a k) → ∃ x H' b, ((FuncT P f ∧ CallS P f args H a x H' b) ∨ NatS P f args H a x H' b) ∧ Good (k x H' b)
def CallOkB (Good : ρ → Prop) (P : Program) (call : CallF ρ) : Prop :=
  ∀ f args H a k, Good (call f args H a k) → ∃ x H' b, FuncT P f ∧ CallS P f args H a x H' b ∧ Good (k x H' b)
theorem repL_evs {R : T AV} {H : AHeap} {g : Gh} {a : Act} {w : World} (hp : XPre n R H g a w) : ∀ l : List Operand, RepL g (evs l R) (l.map a.eval)
  | [] => by simp [evs, listRec, RepL]
  | x :: l => (show RepL g (ev x R :: evs l R) (a.eval x :: l.map a.eval) from by simp only [RepL]; exact ⟨_, _, rfl, ev_rep hp x, repL_evs hp l⟩)
include hb in
theorem ok_callv {call : CallF ρ} (hc : CallOk Good P call) {x : Operand} {args : Array Operand} {ats : Array TypeId} (ho : o.op = .call { callee := .value x, args := args, argTypes := ats }) :
    OpOk Good P n E o (callee (.value x) call args.toList ats.toList) := fun R H a k h => by
  rcases asFnc_cases h with ⟨f, first, caps, hx, h⟩ | h
  rotate_left
  · exact absurd h hb
  obtain ⟨r, H', b, ⟨hF, hab, hdom, hcs⟩ | ⟨hab, hdom, hcs⟩, hk⟩ := hc _ _ _ _ _ h
  rotate_left
  · refine ⟨r, H', b, ⟨hab, hdom, fun F g act w hd hp hf Kc Q hQ => ?_⟩, hk⟩
    have hv := ev_is hp hx
    simp only [Rep] at hv
    obtain ⟨u, v, he, h1, h2⟩ := hv
    obtain ⟨y, w', g', q1, q2, q3, q4⟩ := hcs F g w (u ++ args.map act.eval ++ v) hd (by
      simp only [Array.toList_append, Array.toList_map, List.append_assoc]
      exact repL_append h1 (repL_append (repL_evs hp _) h2)) hp.sim hf
    have hr : (execOp act.eval o).run P w = .ok (.value y) w' := by
      simp only [Array.append_assoc] at q1
      simp [execOp, ho, resolve, he, Deferred.ofValue, invoke, q1]
    rw [Oper.wp, hr, Oper.upon_value]
    exact hQ y w' g' q2 q3 q4
  refine ⟨r, H', b, ⟨hab, hdom, fun F g act w hd hp hf Kc Q hQ => ?_⟩, hk⟩
  have hv := ev_is hp hx
  simp only [Rep] at hv
  obtain ⟨u, v, he, h1, h2⟩ := hv
  have hr : (execOp act.eval o).run P w = .ok (.enter f (u ++ args.map act.eval ++ v)) w := by
    simp [execOp, ho, resolve, he, Deferred.ofValue, invoke, hF.h]
  rw [Oper.wp, hr, Oper.upon_enter]
  refine (hcs F g w _ hd (by
    simp only [Array.toList_append, Array.toList_map, List.append_assoc]
    exact repL_append h1 (repL_append (repL_evs hp _) h2)) hp.sim hf).mono ?_
  rintro e w' ⟨y, g', rfl, e1, e2, e3⟩
  exact hQ y w' g' e1 e2 e3
theorem call_eta (c : Call) : c = { callee := c.callee, args := c.args, argTypes := c.argTypes } := rfl
include hb hty in
theorem ok_builtin {b : Builtin} {args : Array Operand} {ats : Array TypeId} (ho : o.op = .call { callee := .builtin b, args := args, argTypes := ats }) : OpOk Good P n E o (builtin b args.toList ats.toList) := by
  cases b
  case len => exact ok_len hb hty ho
  case append => exact ok_append hb hty ho
  case min => exact ok_min hb ho
  case max => exact ok_max hb ho
  case clear => exact ok_clear hb hty ho
  case copy => exact ok_copy hb hty ho
  case cap => exact ok_cap hb hty ho
  all_goals exact fun R H a k h => absurd h hb
include hb hty in
theorem ok_op {call : CallF ρ} (hc : CallOk Good P call) : OpOk Good P n E o (evalOp o.op call) := by
  generalize ho : o.op = op
  cases op
  case move x => exact ok_move (.inl ho)
  case assign x => exact ok_move (.inr ho)
  case pick c x y => exact ok_pick hb ho
  case alloc t => exact ok_alloc hb hty ho
  case box t x => exact ok_box hb ho
  case build t ps => exact ok_build hb hty ho
  case buildSlice t l ps => exact ok_buildSlice hb hty ho
  case load t x => exact ok_load hb hty ho
  case store t x v => exact ok_store hb hty ho
  case nilCheck x => exact ok_nilCheck hb ho
  case fieldAddr t x f => exact ok_fieldAddr hb hty ho
  case field t x f => exact ok_field hb hty ho
  case indexAddr t x y => exact ok_indexAddr hb hty ho
  case index t x y => exact ok_index hb hty ho
  case slice t x l h m => exact ok_slice hb hty ho
  case lookup t x y c => exact ok_lookup hb hty ho
  case mapUpdate t x y v => exact ok_mapUpdate hb hty ho
  case makeMap t r => exact ok_makeMap hb hty ho
  case makeSlice t l c => exact ok_makeSlice hb hty ho
  case makeFunc f a b => exact ok_makeFunc ho
  case extract x i => exact ok_extract hb ho
  case unOp b t x => exact ok_unOp hb ho
  case binOp b t x y t2 => exact ok_binOp hb hty ho
  case convert s t x => exact ok_convert hb hty ho
  case call c =>
    obtain ⟨cl, args, ats⟩ := c
    cases cl
    case value x => exact ok_callv hb hc ho
    case builtin b => exact ok_builtin hb hty ho
    case invoke a b => exact fun R H a k h => absurd h hb
  all_goals exact fun R H a k h => absurd h hb
theorem opS_run {R : T AV} {H H' : T XO} {a b : Nat} {x : AV} (h : OpS P n o R H a x H' b) {F : AHeap} {g : Gh} {act : Act} {w : World} (hd : Disj (hof H) F a b) (hp : XPre n R (join (hof H) F) g act w) (hf : Free g a b)
    (hdn : ∀ t, o.dst = some t → t < n) {Kc : Act → World → Prop} {Q : Exit → Act → World → Prop}
    (hk : ∀ act' w' g', Ext g g' a b → XPre n (putR R o.dst x) (join (hof H') F) g' act' w' → Kc act' w') : o.wp P act w Kc Q :=
  h.2.2 F g act w hd hp hf Kc Q fun v w' g' he hx hs => hk _ _ g' he (hp.put he.le hdn hx hs)
def ListS (P : Program) (n : Nat) (ops : Array Oper) (l : List Oper) (R : T AV) (H : T XO) (a : Nat) (R' : T AV) (H' : T XO) (b : Nat) : Prop :=
  a ≤ b ∧ Dom H H' a b ∧ ∀ (F : AHeap) (g : Gh) (act : Act) (w : World), Disj (hof H) F a b → XPre n R (join (hof H) F) g act w → Free g a b → ∀ Q : Exit → Act → World → Prop,
    (∀ act' w' g', Ext g g' a b → XPre n R' (join (hof H') F) g' act' w' → Q .normal act' w') → wpList P ops Q l act w
theorem yieldB_cases {v : AV} {want : Bool} {y no z : ρ} (h : Good (yieldB v want y no z)) : (v = .raw (.bool want) ∧ Good y) ∨ ((∃ u, v = .raw u ∧ u ≠ .bool want) ∧ Good no) ∨ Good z := by
  rcases asRaw_cases (f := fun v => vBool v (fun b => ifb want (ifb b y no) (ifb b no y)) no) h with ⟨u, rfl, h⟩ | h
  rotate_left
  · exact .inr (.inr h)
  cases u with
  | bool b =>
    have h : Good (ifb want (ifb b y no) (ifb b no y)) := h
    cases want <;> cases b
    · exact .inl ⟨rfl, h⟩
    · exact .inr (.inl ⟨⟨_, rfl, by simp⟩, h⟩)
    · exact .inr (.inl ⟨⟨_, rfl, by simp⟩, h⟩)
    · exact .inl ⟨rfl, h⟩
  | _ => exact .inr (.inl ⟨⟨_, rfl, by simp⟩, h⟩)
theorem guarded_cases {gd : Option (Nat × Bool)} {ops : Array Oper} {R : T AV} {y no z : ρ} (h : Good (guarded gd ops.toList R y no z)) (hgd : o.guard = gd) :
    ((∀ H g act w, XPre n R H g act w → Region.wanted o (yielded ops act.tmps) = true) ∧ Good y) ∨ ((∀ H g act w, XPre n R H g act w → Region.wanted o (yielded ops act.tmps) = false) ∧ Good no) ∨ Good z := by
  rcases onSome_cases h with ⟨p, hp, h⟩ | ⟨hg, h⟩
  · rcases onSome_cases h with ⟨o', ho', h⟩ | ⟨_, h⟩
    rotate_left
    · exact .inr (.inr h)
    rcases onSome_cases h with ⟨d, hd, h⟩ | ⟨_, h⟩
    rotate_left
    · exact .inr (.inr h)
    rw [nth_eq, Array.getElem?_toList] at ho'
    have hy : ∀ H g act w, XPre n R H g act w → ∀ u, rg R d = .raw u → u ≠ undef → yielded ops act.tmps p.1 = (match u with | .bool b => some b | _ => none) := fun H g act w hx u hu hne => by
      have hr := hx.regs d
      rw [hu] at hr
      simp only [Rep] at hr
      have hd2 : act.tmps[d]? = some u := by
        rw [Array.getD_eq_getD_getElem?] at hr
        cases hq : act.tmps[d]? with
        | none => rw [hq] at hr; exact absurd hr.symm hne
        | some v => rw [hq] at hr; simp at hr; rw [hr]
      unfold yielded
      rw [ho']
      simp only [Option.bind_some, hd, hd2]
      cases u <;> rfl
    have hy0 : ∀ H g act w, XPre n R H g act w → rg R d = .raw undef → yielded ops act.tmps p.1 = none := fun H g act w hx hu => by
      have hr := hx.regs d
      rw [hu] at hr
      simp only [Rep] at hr
      unfold yielded
      rw [ho']
      simp only [Option.bind_some, hd]
      rw [Array.getD_eq_getD_getElem?] at hr
      cases hq : act.tmps[d]? with
      | none => rfl
      | some v => rw [hq] at hr; simp at hr; rw [hr]; rfl
    rcases yieldB_cases h with ⟨hv, h⟩ | ⟨⟨u, hv, hu⟩, h⟩ | h
    · refine .inl ⟨fun H g act w hx => ?_, h⟩
      have := hy H g act w hx _ hv (by simp [undef])
      simp only [Region.wanted, hgd, hp, this]
      simp
    · refine .inr (.inl ⟨fun H g act w hx => ?_, h⟩)
      simp only [Region.wanted, hgd, hp]
      by_cases hun : u = undef
      · rw [hun] at hv
        rw [hy0 H g act w hx hv]
        rfl
      · rw [hy H g act w hx _ hv hun]
        cases u <;> simp at hu ⊢
        exact hu
    · exact .inr (.inr h)
  · exact .inl ⟨fun H g act w hx => by simp [Region.wanted, hgd, hg], h⟩
include hb hty in
theorem ok_list {call : CallF ρ} (hc : CallOk Good P call) {ops : Array Oper} : ∀ (l : List Oper), (∀ o ∈ l, ∀ t, o.dst = some t → t < n) → ∀ (R : T AV) (H : T XO) (a : Nat) (k : R3 ρ),
    Good (runOps l E call ops.toList R H a k) → ∃ R' H' b, ListS P n ops l R H a R' H' b ∧ Good (k R' H' b)
  | [], _, R, H, a, k, h => ⟨R, H, a, ⟨Nat.le_refl a, .refl H a a, fun F g act w hd hp hf Q hQ => wpList_nil (hQ act w g (.refl g a a) hp)⟩, h⟩
  | o :: l, hdn, R, H, a, k, h => by
    have hdo := hdn o (by simp)
    have hdl := fun o' (ho' : o' ∈ l) => hdn o' (by simp [ho'])
    rcases guarded_cases (n := n) (o := o) (y := runOp o E call R H a (fun R H a => runOps l E call ops.toList R H a k)) (no := runOps l E call ops.toList (putR R o.dst undefV) H a k) (z := fail "guard" E.bad) h rfl with ⟨hw, h⟩ | ⟨hw, h⟩ | h
    · obtain ⟨x, H1, b1, hop, h⟩ := ok_op (n := n) (o := o) hb hty hc R H a _ h
      obtain ⟨R', H', b, ⟨l1, l2, l3⟩, hk⟩ := ok_list hc l hdl _ _ _ _ h
      obtain ⟨o1, o2, o3⟩ := hop
      refine ⟨R', H', b, ⟨Nat.le_trans o1 l1, o2.trans l2 o1 l1, fun F g act w hd hp hf Q hQ => ?_⟩, hk⟩
      refine wpList_step fun K hK => ?_
      rw [if_pos (hw _ _ _ _ hp)]
      refine opS_run ⟨o1, o2, o3⟩ (hd.sub l1) hp (hf.sub l1) hdo fun act' w' g' he hp' => hK _ _ ?_
      exact l3 F g' act' w' (hd.step o2 o1 l1) hp' (he.free o1 hf) Q fun act2 w2 g2 he2 hp2 => hQ _ _ g2 (he.trans he2 o1 l1) hp2
    · obtain ⟨R', H', b, ⟨l1, l2, l3⟩, hk⟩ := ok_list hc l hdl _ _ _ _ h
      refine ⟨R', H', b, ⟨l1, l2, fun F g act w hd hp hf Q hQ => ?_⟩, hk⟩
      refine wpList_step fun K hK => ?_
      rw [if_neg (by rw [hw _ _ _ _ hp]; simp)]
      refine hK _ _ (l3 F g _ w hd (hp.put (.refl g) hdo (by simp only [undefV, Rep]; rfl) hp.sim) hf Q hQ)
    · exact absurd h hb
theorem ok_region {id : Nat} {ops : Array Oper} {R R' : T AV} {H H' : T XO} {a b : Nat} (h : ListS P n ops ops.toList R H a R' H' b) : CodeS P n (.region id ops false) R H a .normal R' H' b :=
  ⟨h.1, h.2.1, fun F g act w hd hp hf => wp_region_list (h.2.2 F g act w hd hp hf _ fun act' w' g' he hp' => ⟨rfl, g', he, hp'⟩)⟩
end
end Go.Ex
