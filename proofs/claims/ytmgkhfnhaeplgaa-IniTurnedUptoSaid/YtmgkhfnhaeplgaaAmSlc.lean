/-
  The abstract machine: slices that may be nothing, capacities, 'append' of so many zeroes on nothing. No program in sight.
-/
import Derived.Test.YtmgkhfnhaeplgaaAmDrawB
import Derived.Lib.SliceRun
namespace Go.Am
open Go

section
variable {P : Program}

theorem run_append_zeros {t t2 ty e sz bytes : Nat} {z : Value} [hT : SliceT P t e sz bytes z] [h2 : IntT P t2 .i64] {w : World} {m : Nat} (hm : 0 < m) (h63 : m ≤ 9223372036854775807) (hb : m * bytes ≤ 140737488355328) :
    ∃ cap c, m ≤ cap ∧ c.size = cap * sz ∧ (Builtin.append_ #[t, t2] ty #[.slice none 0 0, .int .i64 (m : Int)]).run P w = .ok (.slice (some ⟨w.heap.size, 0, none⟩) m cap) (w.drew.alloc (.cells c e)) := by
  obtain ⟨i, hi, hz, hs, hby⟩ := hT.info
  have hzc := hT.c
  subst hs
  subst hby
  have hw : IntKind.i64.wrap (m : Int) = (m : Int) := wrap_i64_id (by omega) (by omega)
  have h0 : ¬ ((m : Int) < 0) := by omega
  have h48 : ¬ ((281474976710656 : Int) < (m : Int) * (i.bytes : Int)) := by
    rw [← Int.natCast_mul]; omega
  have hn0 : m ≠ 0 := by omega
  have hai : ∀ w', (asInt (.int .i64 (m : Int))).run P w' = .ok (m : Int) w' := fun w' => by simp [asInt, asIntOf]
  have h63' : ¬ (9223372036854775807 < (m : Int)) := by omega
  have hfit := growslice_fits (need := m) (old := 0) (bytes := i.bytes) (by omega) hb
  have h48' : ¬ (281474976710656 < Builtin.nextslicecap m 0 * i.bytes) := by omega
  by_cases hsz : m * i.size = 0
  · refine ⟨grownCap w m 0 e, #[] ++ #[] ++ Builtin.zeroCells z.cells (grownCap w m 0 e - m), grownCap_ge w _ _ _, ?_, ?_⟩
    · have : i.size = 0 := by rcases Nat.mul_eq_zero.1 hsz with h | h; omega; exact h
      simp [size_zeroCells, hzc, this]
    · simp [Builtin.append_, run_underlying hT.h, run_underlying h2.h, sizeOf, typeInfo, zeroValue, hi, hz, hw, h0, h48, hsz, hn0, h63', h48', Question.forced, newRow, grownCap, hai, Builtin.firstCells]
  · refine ⟨grownCap w m 0 e, #[] ++ Builtin.zeroCells z.cells m ++ Builtin.zeroCells z.cells (grownCap w m 0 e - m), grownCap_ge w _ _ _, ?_, ?_⟩
    · have := grownCap_ge w m 0 e
      simp only [Array.size_append, List.size_toArray, List.length_nil, Nat.zero_add, size_zeroCells, hzc, ← Nat.add_mul]
      congr 1; omega
    · simp [Builtin.append_, run_underlying hT.h, run_underlying h2.h, sizeOf, typeInfo, zeroValue, hi, hz, hw, h0, h48, hsz, hn0, h63', h48', Question.forced, newRow, grownCap, hai, Builtin.firstCells]
end

section
variable {P : Program} {n : Nat} {K : Exit → Regs → AHeap → Prop} {R : Regs} {H : AHeap} {ops : Array Oper} {rest : List Oper} {d : Tmp} {ty : TypeId} {pos : String} {af : Array Edge}

/-- 'append' of zeroes on nothing: an object of its own, of which nothing is said. -/
theorem awl_app_zeros {t t2 e sz bytes : Nat} {z : Value} [hT : SliceT P t e sz bytes z] [h2 : IntT P t2 .i64] {s x : Operand} {m : Nat} {zm : Int} [nm : NatOf zm m] {xs : AO} (hv : xs.void) (hdn : Nat.blt d n = true)
    (hs : reval R s = .raw (.slice none 0 0)) (hx : reval R x = .raw (.int .i64 zm)) (hm : 0 < m) (h63 : m ≤ 9223372036854775807) (hby : m * bytes ≤ 140737488355328)
    (hk : ∀ o', H o' = none → AWL P n ops rest K ((d, .vw o' sz 0 m) :: R) (H.set o' xs)) :
    AWL P n ops (⟨some d, .call { callee := .builtin .append, args := #[s, x], argTypes := #[t, t2] }, ty, pos, af, none⟩ :: rest) K R H := by
  cases nm.h
  exact awl_step rfl rfl hdn fun g a w hp => by
    have hv1 := rv hp hs
    have hu := rv hp hx
    simp only [Rep] at hv1 hu
    obtain ⟨o', ho', hl'⟩ := hp.sim.fresh
    obtain ⟨cap, c, hc, hcs, hr⟩ := run_append_zeros (P := P) (t := t) (t2 := t2) (ty := ty) (sz := sz) (w := w) hm h63 hby
    refine ⟨.slice (some ⟨w.heap.size, 0, none⟩) m cap, _, _, .vw o' sz 0 m, _, ?_, g.le_at hl' ⟨w.heap.size, 0, c.size⟩, ?_, hp.sim.new (w' := w.drew.alloc (.cells c e)) ⟨rfl, rfl, rfl⟩ rfl (unfrozen00 c) hl' (x := xs) ?_, hk o' ho'⟩
    · simp only [execOp, resolve, invoke, builtin, Sem.run_bind, Sem.run_pure, Result.andThen_ok, List.map_toArray, List.map_cons, List.map_nil, hv1, hu, hr]
    · simp only [Rep]
      exact .inl ⟨⟨w.heap.size, 0, c.size⟩, cap, Gh.at_self _ _ _, rfl, hc, by simp; omega⟩
    · cases xs with
      | byt b => simp only [AO.void] at hv; subst hv; exact ⟨by simp, fun i x hi => by simp at hi⟩
      | cel b => simp only [AO.void] at hv; subst hv; exact ⟨by simp, by simp [RepAt]⟩
      | mpo es => exact hv.elim

theorem s_cap_nil {t e sz bytes : Nat} {z : Value} [hT : SliceT P t e sz bytes z] {x : Operand} (hx : reval R x = .raw (.slice none 0 0)) : Stp P n (.call { callee := .builtin .cap, args := #[x], argTypes := #[t] }) ty R H (.raw (.int .i64 0)) :=
  stp_pure fun o ho ht g a w hp => by
    have hv := rv hp hx
    simp only [Rep] at hv
    exact ⟨.int .i64 0, by simp [execOp, ho, resolve, invoke, builtin, hv, Builtin.cap_, run_underlying hT.h, goInt], by simp only [Rep]⟩

end

/-! Cells said more weakly. -/
def WC (xs ys : List AV) : Prop := xs.length = ys.length ∧ ∀ (i : Nat) (x y : AV), xs[i]? = some x → ys[i]? = some y → W x y
theorem WC.nil : WC [] [] := ⟨rfl, fun i x y h => by simp at h⟩
theorem WC.cons {x y : AV} {xs ys : List AV} (h : W x y) (hs : WC xs ys) : WC (x :: xs) (y :: ys) := ⟨by simp [hs.1], fun i u v h1 h2 => by
  cases i with
  | zero => simp at h1 h2; subst h1; subst h2; exact h
  | succ i => exact hs.2 i u v (by simpa using h1) (by simpa using h2)⟩
theorem Ent.wcel {R : Regs} {H : AHeap} {o : Nat} {xs ys : List AV} (h : WC xs ys) : Ent R (H.set o (.cel xs)) R (H.set o (.cel ys)) :=
  Ent.weak h.1.symm fun g c k hr => by
    rw [repAt_iff] at hr ⊢
    intro i y hy
    have hlt : i < xs.length := by rw [h.1]; exact (List.getElem?_eq_some_iff.1 hy).1
    have hx := List.getElem?_eq_getElem hlt
    obtain ⟨u, e1, e2, e3⟩ := hr i _ hx
    exact ⟨u, e1, e2, h.2 i _ y hx hy g u e3⟩
theorem Ent.wcelH {R : Regs} {H H0 : AHeap} {o : Nat} {xs ys : List AV} (hH : H = H0.set o (.cel xs)) (h : WC xs ys) : Ent R H R (H0.set o (.cel ys)) := by subst hH; exact Ent.wcel h

section
variable {P : Program} {n : Nat} {ops : Array Oper} {K : Exit → Regs → AHeap → Prop} {R : Regs} {H H0 : AHeap} {rest : List Oper} {ty : TypeId} {pos : String} {af : Array Edge} {t : TypeId} {x y : Operand}
theorem awl_store1s {ob k : Nat} {xs : List AV} {av : AV} [hC : CellT P t] (hx : reval R x = .ptr ob k) (hy : reval R y = av) (hH : H = H0.set ob (.cel xs)) (h1 : av.one1 = true) (hk : k < xs.length)
    (hcont : AWL P n ops rest K R (H0.set ob (.cel (xs.set k av)))) : AWL P n ops (⟨none, .store t x y, ty, pos, af, none⟩ :: rest) K R H := by
  subst hH
  exact awl_store1 hx hy (AHeap.set_self _ _ _) h1 hk (by rw [AHeap.set_set]; exact hcont)
theorem awl_storea {ob k m : Nat} {xs ys : List AV} [hA : AggT P t m] (hx : reval R x = .ptr ob k) (hy : reval R y = .agg ys) (hH : H = H0.set ob (.cel xs)) (hm : ys.length = m) (h1 : ys.all AV.one1 = true) (hk : k + m ≤ xs.length)
    (hcont : AWL P n ops rest K R (H0.set ob (.cel (putAt xs k ys)))) : AWL P n ops (⟨none, .store t x y, ty, pos, af, none⟩ :: rest) K R H := by
  subst hH
  exact awl_store hx hy (AHeap.set_self _ _ _) rfl h1 hA.s hm hk (by rw [AHeap.set_set]; exact hcont)
end
end Go.Am
