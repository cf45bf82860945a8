import Derived.Test.YtbciofnejefkiaaIz
import Derived.Test.YtbciofnejefkiaaIa5
import Derived.Test.YtbciofnejefkiaaIa2
set_option linter.unusedVariables false
set_option linter.unusedSimpArgs false
set_option maxRecDepth 20000
set_option maxHeartbeats 4000000
namespace Go.Proofs.Ytbciofnejefkiaa
open Go Go.Am Go.Proofs

theorem vw_cell {xs : List AV} {off : Nat} {l : List En} {i : Nat} {e : En} (hx : xs.drop off = l.flatMap En.cells) (hg : l[i]? = some e) : (xs.drop (off + i * 3)).take 3 = e.cells := by
  rw [← List.drop_drop, hx]
  have h1 : l.flatMap En.cells = (l.take i).flatMap En.cells ++ (e.cells ++ (l.drop (i + 1)).flatMap En.cells) := by
    have e1 : l = l.take i ++ (e :: l.drop (i + 1)) := by
      rw [← (List.getElem?_eq_some_iff.1 hg).2, ← List.drop_eq_getElem_cons, List.take_append_drop]
    conv => lhs; rw [e1]
    rw [List.flatMap_append, List.flatMap_cons]
  have h2 : ((l.take i).flatMap En.cells).length = i * 3 := by
    have := (List.getElem?_eq_some_iff.1 hg).1
    rw [flat_len (sz := 3) (fun _ => rfl), List.length_take, Nat.min_eq_left (by omega)]
  rw [h1, ← h2, List.drop_left]
  rfl
theorem copies_vw (H : AHeap) (o off : Nat) (xs : List AV) (l : List En) (hl : l.length ≤ 1000000) (hr : ∀ e ∈ l, e.row.length ≤ 1000000) (hH : H o = some (.cel xs)) (hf : off + l.length * 3 = xs.length) (hx : xs.drop off = l.flatMap En.cells) :
    ACalls Try.prog 43 [.vw o 3 off l.length] H fun r H' => ∃ o', H o' = none ∧ r = .vw o' 3 0 l.length ∧ H' = H.set o' (.cel (l.flatMap En.cells)) := by
  refine acalls_of_aw1 Try.func43 rfl (by decide) ?_
  (first | focus (refine yy17 ?_; refine yy17 ?_; refine yy13 ?_; refine yy64 ?_; refine yy107 ?_; refine yy67 ?_; rotate_left) | fail)
  refine aw_own_nil 3 3 (.cel []) rfl rfl (fun oL hoL => ?_)
  refine aw_loop (fun mm R' H2 => ∃ (i oL : Nat), H oL = none ∧ H2 = H.set oL (.cel ((l.take i).flatMap En.cells)) ∧ R' = [(3, .vw oL 3 0 i), (6, .vw o 3 off l.length), (7, .raw (.int .i64 (l.length : Int))), (8, .raw (.int .i64 (i : Int)))] ∧ i + mm = l.length) ?_ ?_
  · exact ⟨l.length, _, _, auto_ent, 0, oL, hoL, by rw [List.take_zero]; rfl, rfl, by omega⟩
  clear hoL oL
  rintro mm R0 H2 ⟨i, oL, hoL, rfl, rfl, hi⟩
  have hfl : ((l.take i).flatMap En.cells).length = i * 3 := by rw [flat_len (sz := 3) (fun _ => rfl), List.length_take, Nat.min_eq_left (by omega)]
  have hne : o ≠ oL := fun e => by rw [e, hoL] at hH; cases hH
  by_cases hlt : i < l.length
  · have hg : l[i]? = some l[i] := List.getElem?_eq_getElem hlt
    have hm := hr _ (List.getElem_mem hlt)
    have hge := vw_cell hx hg
    have hsn : (l.take (i + 1)).flatMap En.cells = (l.take i).flatMap En.cells ++ (l[i]).cells := by rw [List.take_add_one, hg, List.flatMap_append]; simp [hg]
    generalize l[i] = e at *
    (first | focus (refine yy9 ?_; refine aw_condp rfl (fun hc => ?_) (fun hc => ?_); refine yy20 ?_; refine yy1 ?_; refine yy115 ?_; refine awl_s rfl (s_load_agg rfl auto_heap (by assumption) (by rfl) auto_len) ?_; refine awl_alloc rfl rfl rfl (fun oN hoN => ?_); refine yy102 ?_; refine yy3 ?_; refine aw_region ?_; refine yy64 ?_; refine yy78 ?_; (refine zc auto_wl (Copy_calls _ e hm) ?_; rintro r H' ⟨rfl, rfl⟩); refine yy111 ?_; refine za2 rfl rfl rfl (by assumption) auto_len auto_src auto_len auto_len (fun oN hoN => ?_); refine yy81 ?_; refine yy4 ?_; refine yy33 ?_; rotate_left; exact absurd hc auto_no) | fail)
    all_goals first
      | (exfalso; omega)
      | exact ⟨mm - 1, _, _, by omega, auto_entg, i + 1, oN, hoN, by rw [hsn]; rfl, rfl, by omega⟩
      | trace_state
  obtain rfl : i = l.length := by omega
  rw [List.take_length] at *
  (first | focus (refine yy9 ?_; refine yy37 ?_; intro hc; refine yy1 ?_; refine yy64 ?_; refine yy81 ?_; refine yy35 ?_; rotate_left) | fail)
  all_goals first
    | (exfalso; omega)
    | exact ⟨.inl rfl, _, _, _, Ent.refl _ _, ret1 rfl rfl, oL, hoL, rfl, rfl⟩
theorem MI.get_at {k : Int} {u : AV} : ∀ {es : MI}, es.get k = some u → ∃ i : Nat, es[i]? = some (k, u)
  | [], h => by cases h
  | (a, v) :: es, h => by
    unfold MI.get at h
    split at h
    · next e => cases h; exact ⟨0, by rw [e]; rfl⟩
    · obtain ⟨i, hi⟩ := MI.get_at h; exact ⟨i + 1, hi⟩
theorem MI.at_get {k : Int} {u : AV} : ∀ {es : MI} {i : Nat}, (es.map (·.1)).Nodup → es[i]? = some (k, u) → es.get k = some u
  | [], _, _, h => by cases h
  | (a, v) :: es, 0, _, h => by cases h; unfold MI.get; rw [if_pos rfl]
  | (a, v) :: es, i + 1, hn, h => by
    rw [List.map_cons, List.nodup_cons] at hn
    have hi : es[i]? = some (k, u) := h
    unfold MI.get
    rw [if_neg (fun e => hn.1 (by rw [e]; exact List.mem_map.2 ⟨(k, u), List.mem_of_getElem? hi, rfl⟩))]
    exact MI.at_get hn.2 hi
theorem MI.put_len {k : Int} {v : AV} : ∀ {es : MI}, es.get k = none → (es.put k v).length = es.length + 1
  | [], _ => rfl
  | (a, u) :: es, h => by
    unfold MI.get at h
    split at h
    · cases h
    · next e => unfold MI.put; rw [if_neg e, List.length_cons, List.length_cons, MI.put_len h]
theorem nd_len : ∀ {a b : List Nat}, a.Nodup → (∀ x ∈ a, x ∈ b) → a.length ≤ b.length
  | [], b, _, _ => Nat.zero_le _
  | x :: a, b, h, hs => by
    rw [List.nodup_cons] at h
    have hx := hs x List.mem_cons_self
    have := nd_len (a := a) (b := b.erase x) h.2 fun y hy => by
      have hne : y ≠ x := fun e => h.1 (by rw [← e]; exact hy)
      exact (List.mem_erase_of_ne hne).2 (hs y (List.mem_cons_of_mem _ hy))
    rw [List.length_erase_of_mem hx] at this
    have : 0 < b.length := List.length_pos_of_mem hx
    rw [List.length_cons]; omega
theorem nd_at {α : Type} {l : List α} (h : l.Nodup) {i j : Nat} {k : α} (hi : l[i]? = some k) (hj : l[j]? = some k) : i = j := by
  obtain ⟨a1, a2⟩ := List.getElem?_eq_some_iff.1 hi
  obtain ⟨b1, b2⟩ := List.getElem?_eq_some_iff.1 hj
  have hp := List.pairwise_iff_getElem.1 h
  rcases Nat.lt_trichotomy i j with hlt | e | hlt
  · exact absurd (a2.trans b2.symm) (hp i j a1 b1 hlt)
  · exact e
  · exact absurd (b2.trans a2.symm) (hp j i b1 a1 hlt)
structure Cpd (eg es2 : MI) (born seen : List Nat) : Prop where
  sub : ∀ k u, es2.get k = some u → eg.get k = some u
  did : ∀ (i b : Nat) (p : Int × AV), born[i]? = some b → b ∈ seen → eg[i]? = some p → es2.get p.1 = some p.2
  yet : ∀ (i b : Nat) (p : Int × AV), born[i]? = some b → b ∉ seen → eg[i]? = some p → es2.get p.1 = none
  len : es2.length = seen.length
  nd : (es2.map (·.1)).Nodup
  snd : seen.Nodup
  ss : ∀ b ∈ seen, b ∈ born
theorem Cpd.nil (eg : MI) (born : List Nat) : Cpd eg [] born [] :=
  ⟨fun k u h => (by cases h), fun _ _ _ _ h => (by cases h), fun _ _ _ _ _ _ => rfl, rfl, List.Pairwise.nil, List.Pairwise.nil, fun _ h => (by cases h)⟩
theorem Cpd.step {eg es2 : MI} {born seen : List Nat} (h : Cpd eg es2 born seen) (hn : (eg.map (·.1)).Nodup) (hb : born.Nodup) {i b : Nat} {k : Int} {v : AV} (h1 : born[i]? = some b) (h2 : b ∉ seen) (h3 : eg[i]? = some (k, v)) : Cpd eg (es2.put k v) born (seen ++ [b]) := by
  have hnone := h.yet i b _ h1 h2 h3
  refine ⟨fun k' u hk => ?_, fun j b' p hj hm hp => ?_, fun j b' p hj hm hp => ?_, ?_, put_nd h.nd, ?_, fun x hx => ?_⟩
  · rw [get_put] at hk
    split at hk
    · next e => cases hk; rw [← e]; exact MI.at_get hn h3
    · exact h.sub k' u hk
  · rw [get_put]
    split
    · next e =>
      have : i = j := nd_at hn (i := i) (j := j) (k := k) (by rw [List.getElem?_map, h3]; rfl) (by rw [List.getElem?_map, hp, e]; rfl)
      subst this
      rw [h3] at hp; cases hp; rfl
    · next e =>
      rcases List.mem_append.1 hm with hm | hm
      · exact h.did j b' p hj hm hp
      · rw [List.mem_singleton.1 hm] at hj
        have : i = j := nd_at hb h1 hj
        subst this
        rw [h3] at hp; cases hp; exact absurd rfl e
  · rw [List.mem_append, not_or] at hm
    have h4 := h.yet j b' p hj hm.1 hp
    rw [get_put, if_neg ?_]
    · exact h4
    · intro e
      have : i = j := nd_at hn (i := i) (j := j) (k := k) (by rw [List.getElem?_map, h3]; rfl) (by rw [List.getElem?_map, hp, e]; rfl)
      subst this
      rw [h1] at hj; cases hj; exact hm.2 (List.mem_singleton.2 rfl)
  · rw [MI.put_len hnone, h.len, List.length_append]; rfl
  · rw [List.nodup_append]
    exact ⟨h.snd, by simp, fun x hx y hy e => h2 (by rw [List.mem_singleton.1 hy] at e; rw [← e]; exact hx)⟩
  · rcases List.mem_append.1 hx with hx | hx
    · exact h.ss x hx
    · rw [List.mem_singleton.1 hx]; exact List.mem_of_getElem? h1
theorem Cpd.lt {eg es2 : MI} {born seen : List Nat} (h : Cpd eg es2 born seen) {b : Nat} (h1 : b ∈ born) (h2 : b ∉ seen) : seen.length < born.length := by
  have := nd_len (a := b :: seen) (b := born) (List.nodup_cons.2 ⟨h2, h.snd⟩) fun x hx => by
    rcases List.mem_cons.1 hx with hx | hx
    · rw [hx]; exact h1
    · exact h.ss x hx
  rw [List.length_cons] at this; omega
theorem Cpd.done {eg es2 : MI} {born seen : List Nat} (h : Cpd eg es2 born seen) (hb : born.Nodup) (hl : born.length = eg.length) (hs : ∀ b ∈ born, b ∈ seen) : (∀ k, es2.get k = eg.get k) ∧ es2.length = eg.length := by
  refine ⟨fun k => ?_, ?_⟩
  · cases he : eg.get k with
    | some u =>
      obtain ⟨i, hi⟩ := MI.get_at he
      have hlt := (List.getElem?_eq_some_iff.1 hi).1
      have hb : born[i]? = some (born[i]'(by omega)) := List.getElem?_eq_getElem (by omega)
      exact h.did i _ _ hb (hs _ (List.mem_of_getElem? hb)) hi
    | none =>
      cases h2 : es2.get k with
      | none => rfl
      | some u => rw [h.sub k u h2] at he; cases he
  · have h1 := nd_len h.snd h.ss
    have h2 := nd_len hb hs
    rw [h.len]; omega
theorem MI.get_none {k : Int} : ∀ {es : MI}, es.get k = none → k ∉ es.map (·.1)
  | [], _ => by simp
  | (a, u) :: es, h => by
    unfold MI.get at h
    split at h
    · cases h
    · next e =>
      rw [List.map_cons, List.mem_cons, not_or]
      exact ⟨fun x => e x.symm, MI.get_none h⟩
theorem count_one (n : Nat) (a : Int) : (List.range n).countP (fun r : Nat => decide (a = (r : Int))) ≤ 1 := by
  have h : ∀ l : List Nat, l.Nodup → l.countP (fun r : Nat => decide (a = (r : Int))) ≤ 1 := by
    intro l
    induction l with
    | nil => intro _; simp
    | cons x l ih =>
      intro hn
      rw [List.nodup_cons] at hn
      rw [List.countP_cons]
      by_cases e : a = (x : Int)
      · have : l.countP (fun r : Nat => decide (a = (r : Int))) = 0 := by
          rw [List.countP_eq_zero]
          intro y hy hq
          have : a = (y : Int) := by simpa using hq
          have : x = y := by omega
          exact hn.1 (by rw [this]; exact hy)
        rw [this]; split <;> omega
      · rw [if_neg (by simpa using e)]; exact ih hn.2
  exact h _ List.nodup_range
theorem count_or (P Q : Nat → Bool) : ∀ l : List Nat, l.countP (fun r => P r || Q r) ≤ l.countP P + l.countP Q
  | [] => by simp
  | x :: l => by
    have ih := count_or P Q l
    simp only [List.countP_cons]
    cases P x <;> cases Q x <;> simp <;> omega
theorem MI.size_le (n : Nat) : ∀ es : MI, (List.range n).countP (fun r : Nat => (MI.get es (r : Int)).isSome) ≤ es.length ∧ ((List.range n).countP (fun r : Nat => (MI.get es (r : Int)).isSome) = es.length → (es.map (·.1)).Nodup)
  | [] => ⟨by simp [MI.get], fun _ => List.Pairwise.nil⟩
  | (a, v) :: es => by
    obtain ⟨i1, i2⟩ := MI.size_le n es
    have he : (fun r : Nat => ((MI.get ((a, v) :: es) (r : Int)).isSome)) = fun r : Nat => (decide (a = (r : Int)) || (MI.get es (r : Int)).isSome) := by
      funext r
      by_cases e : a = (r : Int)
      · simp [MI.get, e]
      · simp [MI.get, e]
    rw [he, List.length_cons]
    have h1 := count_or (fun r : Nat => decide (a = (r : Int))) (fun r : Nat => (MI.get es (r : Int)).isSome) (List.range n)
    have h2 := count_one n a
    refine ⟨by omega, fun h => ?_⟩
    have h3 : MI.get es a = none := by
      cases hg : MI.get es a with
      | none => rfl
      | some u =>
        exfalso
        have : (fun r : Nat => (decide (a = (r : Int)) || (MI.get es (r : Int)).isSome)) = fun r : Nat => (MI.get es (r : Int)).isSome := by
          funext r
          by_cases e : a = (r : Int)
          · rw [← e, hg]; simp
          · simp [e]
        rw [this] at h; omega
    rw [List.map_cons, List.nodup_cons]
    exact ⟨MI.get_none h3, i2 (by omega)⟩
theorem GotM.nd {es : MI} {c : Ag.Co} (h : GotM es c) : (es.map (·.1)).Nodup := by
  refine (MI.size_le c.n es).2 ?_
  rw [h.len]
  unfold Ag.Co.size
  congr 1
  funext r
  rw [h.get, if_pos (by omega), Int.toNat_natCast]
  cases c.got r <;> rfl
theorem map_at {ik : IntKind} {es : MI} {i : Nat} {k v : AV} (h : (es.map fun p => (AV.raw (.int ik p.1), p.2))[i]? = some (k, v)) : ∃ a : Int, k = .raw (.int ik a) ∧ es[i]? = some (a, v) := by
  rw [List.getElem?_map] at h
  cases he : es[i]? with
  | none => rw [he] at h; cases h
  | some p => rw [he] at h; cases h; exact ⟨p.1, rfl, rfl⟩
end Go.Proofs.Ytbciofnejefkiaa

namespace Go.Proofs.Ytbciofnejefkiaa
open Go Go.Am Go.Proofs

theorem CopyP_calls (H : AHeap) (F : Ob) (c : Ag.Co) (h : CAt H F c) (nd : NdC F) (hf : CFine c) :
    ACalls Try.prog 28 [.ptr F.o 0] H fun r H' => ∃ F2 : Ob, r = .ptr F2.o 0 ∧ CAt H' F2 c ∧ NdC F2 ∧ (∀ p ∈ F2.c, H p = none) ∧ ∀ p y, H p = some y → H' p = some y := by
  obtain ⟨⟨off, xs, hco, hw, hx1, hx2⟩, ⟨eg, hg, hg2⟩, ⟨eh, hh, hh2⟩⟩ := h
  obtain ⟨n1, n2, n3, n4, n5, n6⟩ := nd
  have f1 := hf.list.len
  have f2 := hf.list.ok
  have f3 := hf.wait.len
  have f4 := hf.wait.ok
  have hc1 := fun H => (copies_own H c.list (by omega) fun e he => by have := (f2 e he).2; omega).seal_cel (flat_len (sz := 3) (fun _ => rfl) _)
  have hc2 := fun H h => copies_vw H F.ow off xs c.wait (by omega) (fun e he => by have := (f4 e he).2; omega) h hx1 hx2
  unfold coreC at hco
  refine acalls_of_aw1 Try.func28 rfl (by decide) ?_
  (first | focus (refine yy17 ?_; refine yy16 ?_; refine awl_s rfl (s_nilCheck_ptr rfl) ?_; refine yy46 ?_; refine awl_alloc rfl rfl rfl (fun oN hoN => ?_); refine yy87 ?_; refine yy3 ?_; refine aw_seq ?_; refine DC.aw_drawp (fun H' => H' F.o = some (.cel [mI c.me, mI c.n, uI c.view, uI c.last, lsE c.list, mI c.agreed, bB c.lead, mI c.quiet, .mp F.og, .mp F.oh, .vw F.ow 3 off c.wait.length]) ∧ H' F.ow = some (.cel xs)) (by first | exact ⟨auto_heap, auto_heap⟩) auto_kr auto_dk auto_dk ?_; refine yy10 ?_; refine yy69 ?_; refine yy38 ?_; refine DC.awn_b ?_; refine yy10 ?_; refine yy69 ?_; refine yy38 ?_; refine DC.awn_b ?_; refine yy100 ?_; refine DC.awn_b0 ?_; refine yy100 ?_; refine DC.awn_b0 ?_; refine DC.awn_nil ?_; refine DC.awc_cons (fun Rx K1 hK1x => ?_); (refine zc auto_wl (hc1 _) ?_; rintro r H' ⟨rfl, rfl⟩); refine yy4 ?_; (refine hK1x _ _ (by first | exact Or.inl (by decide +kernel) | (refine Or.inr ?_; (try dsimp only); first | exact ⟨auto_heap, auto_heap⟩)) ?_; clear hK1x K1 Rx); refine DC.awc_cons (fun Rx K1 hK1x => ?_); (refine zc auto_wl (hc2 _ auto_heap) ?_; rintro r H' ⟨ow2, how2, rfl, rfl⟩); refine yy4 ?_; (refine hK1x _ _ (by first | exact Or.inl (by decide +kernel) | (refine Or.inr ?_; (try dsimp only); first | exact ⟨auto_heap, auto_heap⟩)) ?_; clear hK1x K1 Rx); refine DC.awc_cons0 (fun Rx K1 hK1x => ?_); refine yy86 ?_; (refine hK1x _ (by first | exact Or.inl (by decide +kernel) | (refine Or.inr ?_; (try dsimp only); first | exact ⟨auto_heap, auto_heap⟩)) ?_; clear hK1x K1 Rx); refine DC.awc_cons0 (fun Rx K1 hK1x => ?_); refine yy83 ?_; refine yy4 ?_; (refine hK1x _ (by first | exact Or.inl (by decide +kernel) | (refine Or.inr ?_; (try dsimp only); first | exact ⟨auto_heap, auto_heap⟩)) ?_; clear hK1x K1 Rx); refine DC.awc_nil ?_; refine yy31 ?_; refine yy1 ?_; refine awl_makeMapI rfl (fun oN hoN => ?_); refine awl_makeMapI rfl (fun oN hoN => ?_); refine yy77 ?_; refine yy75 ?_; refine yy77 ?_; refine yy83 ?_; refine yy3 ?_; rotate_left) | fail)
  rename_i oO hoO oG hoG
  have hoH := hoN
  generalize hqq : oN = oH at *
  clear hqq hoN oN
  refine aw_ent (R' := [(0, .ptr F.o 0), (3, .ptr oO 0)]) (Ent.sub _ (by (repeat' (first | exact RSub.nil _ | apply RSub.cons)); all_goals rfl)) ?_
  refine aw_gen (fun H2 => H2 oO = some (.cel (coreC c oG oH (.vw ow2 3 0 c.wait.length))) ∧ H2 ow2 = some (.cel (c.wait.flatMap En.cells)) ∧ H2 oG = some (MI.ao .i64 []) ∧ H2 oH = some (MI.ao .i64 []) ∧ oG ≠ oO ∧ oH ≠ oO ∧ ow2 ≠ oO ∧ oG ≠ oH ∧ oG ≠ ow2 ∧ oH ≠ ow2 ∧ H ow2 = none ∧ H oG = none ∧ H oH = none ∧ ∀ p y, H p = some y → H2 p = some y) ?_ ?_
  · have a1 : ow2 ≠ oO := AHeap.ne_of_fresh how2
    have a2 : H ow2 = none := AHeap.none_of_set how2
    have g0 := AHeap.none_of_set hoG
    have g1 := AHeap.none_of_set g0
    have a3 : oG ≠ oO := AHeap.ne_of_fresh hoG
    have a4 : oG ≠ ow2 := AHeap.ne_of_fresh g0
    have a5 : H oG = none := AHeap.none_of_set g1
    have h0 := AHeap.none_of_set hoH
    have h1 := AHeap.none_of_set h0
    have h2 := AHeap.none_of_set h1
    have a6 : oH ≠ oG := AHeap.ne_of_fresh hoH
    have a7 : oH ≠ oO := AHeap.ne_of_fresh h0
    have a8 : oH ≠ ow2 := AHeap.ne_of_fresh h1
    have a9 : H oH = none := AHeap.none_of_set h2
    clear hoG hoH how2 g0 g1 h0 h1 h2
    refine ⟨by exact auto_heap, by exact auto_heap, by exact auto_heap, by exact auto_heap, a3, a7, a1, a6.symm, a4, a8, a2, a5, a9, fun p y hp => ?_⟩
    have hne : ∀ {q : Nat}, H q = none → p ≠ q := fun b e => by rw [e, b] at hp; cases hp
    have b1 := hne hoO
    have b2 := hne a2
    have b3 := hne a5
    have b4 := hne a9
    exact auto_heap
  clear hoG hoH how2
  rintro H2 ⟨q1, q2, q3, q4, d1, d2, d3, d4, d5, d6, r1, r2, r3, fr⟩
  have hne : ∀ {H : AHeap} {p q : Nat} {y : AO}, H p = some y → H q = none → p ≠ q := fun a b e => by rw [e, b] at a; cases a
  have e1 := fr _ _ hco
  have e2 := fr _ _ hw
  have e3 := fr _ _ hg
  have e4 := fr _ _ hh
  have u1 := hne hco hoO
  have u2 := hne hg hoO
  have u3 := hne hg r2
  have u4 := hne hg r1
  have u5 := hne hg r3
  have u6 := hne hh hoO
  have u7 := hne hh r2
  have u8 := hne hh r1
  have u9 := hne hh r3
  unfold coreC at q1
  (first | focus (refine yy13 ?_; refine yy21 ?_; refine awl_rangeI rfl rfl auto_heap (fun oN mbN clN brN hoN hbl hbn hbc => ?_); (with_reducible refine awl_nil ?_); refine k_seq_normal ?_; refine aw_block ?_; rotate_left) | fail)
  have v1 : ∀ p, H2 p = none → H p = none := fun p hp => by
    cases hx : H p with
    | none => rfl
    | some y => rw [fr _ _ hx] at hp; cases hp
  have hoi0 := v1 _ hoN
  have w1 := hne q1 hoN
  have w2 := hne q2 hoN
  have w3 := hne q3 hoN
  have w4 := hne q4 hoN
  have w5 := hne hco hoi0
  have w6 := hne hg hoi0
  have w7 := hne hh hoi0
  have w8 := hne hw hoi0
  have hoi := hoN
  generalize hqq : oN = oi at *
  clear hqq hoN oN
  have hgd := hg2.nd
  refine aw_loop (fun mm R' H3 => ∃ (seen : List Nat) (es2 : MI), R' = [(0, .ptr F.o 0), (3, .ptr oO 0), (31, .ptr oi 0)] ∧ H3 oi = some (itrO mbN clN clN seen) ∧ H3 F.og = some (mpxO mbN clN (eg.map fun p => (AV.raw (.int .i64 p.1), p.2)) brN) ∧ H3 oO = some (.cel [mI c.me, mI c.n, uI c.view, uI c.last, lsE c.list, mI c.agreed, bB c.lead, mI c.quiet, .mp oG, .mp oH, .vw ow2 3 0 c.wait.length]) ∧ H3 ow2 = some (.cel (c.wait.flatMap En.cells)) ∧ H3 oG = some (MI.ao .i64 es2) ∧ H3 oH = some (MI.ao .i64 []) ∧ (∀ p y, H p = some y → p ≠ F.og → H3 p = some y) ∧ Cpd eg es2 brN seen ∧ seen.length + mm = brN.length) ?_ ?_
  · exact ⟨brN.length, _, _, auto_ent, [], [], rfl, by exact auto_heap, by exact auto_heap, by exact auto_heap, by exact auto_heap, by exact auto_heap, by exact auto_heap, fun p y hp hF => AHeap.get_skip (hne hp hoi0) (AHeap.get_skip hF (fr _ _ hp)), Cpd.nil _ _, by simp⟩
  clear e1 e2 e3 e4 q1 q2 q3 q4 fr hoi v1 H2
  rintro mm R0 H3 ⟨seen, es2, rfl, p1, p2, p3, p4, p5, p6, p7, p8, p9⟩
  have e1 := p7 _ _ hco n1
  (first | focus (refine yy1 ?_; refine awl_nextI rfl rfl auto_heap auto_heap (fun iN kN vN bN heN hbN hsN => ?_) (fun hsN => ?_); refine awl_s rfl (s_extract rfl rfl) ?_; refine yy3 ?_; refine aw_seq ?_; refine yy23 ?_; refine yy82 ?_; refine aw_block ?_; refine yy1 ?_; rotate_left; refine awl_s rfl (s_extract rfl rfl) ?_; refine yy3 ?_; refine aw_seq ?_; refine aw_cond_f rfl ?_; refine yy147 ?_; refine yy13 ?_; refine yy21 ?_; rotate_left) | fail)
  · obtain ⟨kk, rfl, he⟩ := map_at heN
    have hgk := MI.at_get hgd he
    rw [hg2.get kk] at hgk
    by_cases hk0 : 0 ≤ kk
    rotate_left
    · rw [if_neg hk0] at hgk; cases hgk
    rw [if_pos hk0] at hgk
    cases hq : c.got kk.toNat with
    | none => rw [hq] at hgk; cases hgk
    | some x =>
    rw [hq] at hgk
    cases hgk
    have hxl := (hf.got _ _ hq).2.2.len
    have hxr := (hf.got _ _ hq).2.2.ok
    have hc3 := fun H => (copies_own H x.list (by omega) fun e he => by have := (hxr e he).2; omega).seal_cel (flat_len (sz := 3) (fun _ => rfl) _)
    have hst := p8.step hgd hbn hbN hsN he
    have hlt := p8.lt (List.mem_of_getElem? hbN) hsN
    clear hq hxl hxr hc1 hc2
    unfold voteA at *
    have pM : (H3.set oi (itrO mbN clN clN (seen ++ [bN]))) F.og = some (mpxO mbN clN (eg.map fun p => (AV.raw (.int .i64 p.1), p.2)) brN) := by exact auto_heap
    (first | focus (refine awl_s rfl (s_entryI rfl auto_heap auto_heap (by assumption) (by assumption)) ?_; refine awl_s rfl (s_extract rfl rfl) ?_; refine awl_s rfl (s_extract rfl rfl) ?_; refine awl_alloc rfl rfl rfl (fun oN hoN => ?_); refine yy40 ?_; refine yy102 ?_; refine yy3 ?_; refine yy104 ?_; refine yy151 ?_; refine yy7 ?_; refine yy36 ?_; refine yy36 ?_; (apply awt_s; · exact s_callc auto_wl (hc3 _)); refine yy143 ?_; refine awt_last ?_; refine awl_mapUpdateI rfl rfl auto_mv auto_heap ?_; refine yy4 ?_; refine yy50 ?_; rotate_left) | fail)
    exact ⟨mm - 1, _, _, by omega, auto_ent, seen ++ [bN], es2.put kk (.agg [uI x.last, lsE x.list]), rfl, by exact auto_heap, by exact auto_heap, by exact auto_heap, by exact auto_heap, by exact auto_heap, by exact auto_heap, fun p y hp hF => AHeap.get_skip (hne hp r2) (AHeap.get_skip (hne hp hoi0) (p7 p y hp hF)), hst, by rw [List.length_append]; simp only [List.length_cons, List.length_nil]; omega⟩
  · obtain ⟨z1, z2⟩ := p8.done hbn hbl hsN
    have hG2 : GotM es2 c := ⟨fun k => (z1 k).trans (hg2.get k), z2.trans hg2.len⟩
    have x1 := p7 _ _ hh n4.symm
    refine awl_ent (R' := [(0, .ptr F.o 0), (3, .ptr oO 0), (49, .mp F.oh)]) ((Ent.unpin p2).trans (Ent.sub _ (by (repeat' (first | exact RSub.nil _ | apply RSub.cons)); all_goals rfl))) ?_
    refine awl_gen (fun H4 => H4 oO = some (.cel [mI c.me, mI c.n, uI c.view, uI c.last, lsE c.list, mI c.agreed, bB c.lead, mI c.quiet, .mp oG, .mp oH, .vw ow2 3 0 c.wait.length]) ∧ H4 ow2 = some (.cel (c.wait.flatMap En.cells)) ∧ H4 oG = some (MI.ao .i64 es2) ∧ H4 oH = some (MI.ao .i64 []) ∧ ∀ p y, H p = some y → H4 p = some y) ?_ ?_
    · refine ⟨by exact auto_heap, by exact auto_heap, by exact auto_heap, by exact auto_heap, fun p y hp => ?_⟩
      by_cases hF : p = F.og
      · rw [hF, hg] at hp; cases hp; rw [hF]; exact AHeap.set_self _ _ _
      · exact AHeap.get_skip hF (p7 p y hp hF)
    clear p1 p2 p3 p4 p5 p6 p7 p8 p9 hbn hbl hsN z1 z2 hbc hoi0 w1 w2 w3 w4 w5 w6 w7 w8 e1 x1 H3
    rintro H4 ⟨p3, p4, p5, p6, p7⟩
    have e1 := p7 _ _ hh
    (first | focus (refine awl_rangeI rfl rfl auto_heap (fun oN mbN clN brN hoN hbl hbn hbc => ?_); (with_reducible refine awl_nil ?_); refine k_seq_normal ?_; refine aw_block ?_; rotate_left) | fail)
    have v1 : ∀ p, H4 p = none → H p = none := fun p hp => by
      cases hx : H p with
      | none => rfl
      | some y => rw [p7 _ _ hx] at hp; cases hp
    have hoi0 := v1 _ hoN
    have w1 := hne p3 hoN
    have w2 := hne p4 hoN
    have w3 := hne p5 hoN
    have w4 := hne p6 hoN
    have w5 := hne hco hoi0
    have w6 := hne hg hoi0
    have w7 := hne hh hoi0
    have w8 := hne hw hoi0
    have hoj := hoN
    generalize hqq : oN = oj at *
    clear hqq hoN oN
    have hgd := hh2.nd
    refine aw_loop (fun mm R' H3 => ∃ (seen : List Nat) (es3 : MI), R' = [(0, .ptr F.o 0), (3, .ptr oO 0), (50, .ptr oj 0)] ∧ H3 oj = some (itrO mbN clN clN seen) ∧ H3 F.oh = some (mpxO mbN clN (eh.map fun p => (AV.raw (.int .i64 p.1), p.2)) brN) ∧ H3 oO = some (.cel [mI c.me, mI c.n, uI c.view, uI c.last, lsE c.list, mI c.agreed, bB c.lead, mI c.quiet, .mp oG, .mp oH, .vw ow2 3 0 c.wait.length]) ∧ H3 ow2 = some (.cel (c.wait.flatMap En.cells)) ∧ H3 oG = some (MI.ao .i64 es2) ∧ H3 oH = some (MI.ao .i64 es3) ∧ (∀ p y, H p = some y → p ≠ F.oh → H3 p = some y) ∧ Cpd eh es3 brN seen ∧ seen.length + mm = brN.length) ?_ ?_
    · exact ⟨brN.length, _, _, auto_ent, [], [], rfl, by exact auto_heap, by exact auto_heap, by exact auto_heap, by exact auto_heap, by exact auto_heap, by exact auto_heap, fun p y hp hF => AHeap.get_skip (hne hp hoi0) (AHeap.get_skip hF (p7 _ _ hp)), Cpd.nil _ _, by simp⟩
    clear e1 p3 p4 p5 p6 p7 hoj v1 H4
    rintro mm R0 H3 ⟨seen, es3, rfl, p1, p2, p3, p4, p5, p6, p7, p8, p9⟩
    have e1 := p7 _ _ hco n2
    (first | focus (refine yy1 ?_; refine awl_nextI rfl rfl auto_heap auto_heap (fun iN kN vN bN heN hbN hsN => ?_) (fun hsN => ?_); refine awl_s rfl (s_extract rfl rfl) ?_; refine yy3 ?_; refine aw_seq ?_; refine yy23 ?_; refine yy82 ?_; refine aw_block ?_; refine yy1 ?_; rotate_left; refine awl_s rfl (s_extract rfl rfl) ?_; refine yy3 ?_; refine aw_seq ?_; refine aw_cond_f rfl ?_; refine yy147 ?_; refine yy1 ?_; refine yy105 ?_; refine yy35 ?_; rotate_left) | fail)
    · obtain ⟨kk, rfl, he⟩ := map_at heN
      have hgk := MI.at_get hgd he
      rw [hh2.get kk] at hgk
      by_cases hk0 : 0 ≤ kk
      rotate_left
      · rw [if_neg hk0] at hgk; cases hgk
      rw [if_pos hk0] at hgk
      cases hq : c.held kk.toNat with
      | none => rw [hq] at hgk; cases hgk
      | some x =>
      rw [hq] at hgk
      cases hgk
      have hst := p8.step hgd hbn hbN hsN he
      have hlt := p8.lt (List.mem_of_getElem? hbN) hsN
      clear hq hc1 hc2
      have pM : (H3.set oj (itrO mbN clN clN (seen ++ [bN]))) F.oh = some (mpxO mbN clN (eh.map fun p => (AV.raw (.int .i64 p.1), p.2)) brN) := by exact auto_heap
      (first | focus (refine awl_s rfl (s_entryI rfl auto_heap auto_heap (by assumption) (by assumption)) ?_; refine awl_s rfl (s_extract rfl rfl) ?_; refine awl_s rfl (s_extract rfl rfl) ?_; refine yy40 ?_; refine yy5 ?_; refine aw_region ?_; refine yy77 ?_; refine yy114 ?_; refine yy2 ?_; refine yy2 ?_; refine awl_mapUpdateI rfl rfl auto_mv auto_heap ?_; refine yy4 ?_; refine yy50 ?_; rotate_left) | fail)
      exact ⟨mm - 1, _, _, by omega, auto_ent, seen ++ [bN], es3.put kk (uI x), rfl, by exact auto_heap, by exact auto_heap, by exact auto_heap, by exact auto_heap, by exact auto_heap, by exact auto_heap, fun p y hp hF => AHeap.get_skip (hne hp r3) (AHeap.get_skip (hne hp hoi0) (p7 p y hp hF)), hst, by rw [List.length_append]; simp only [List.length_cons, List.length_nil]; omega⟩
    · obtain ⟨z1, z2⟩ := p8.done hbn hbl hsN
      have hH3 : HeldM es3 c := ⟨fun k => (z1 k).trans (hh2.get k), p8.nd⟩
      refine ⟨.inl rfl, _, _, _, Ent.unpin p2, ret1 rfl rfl, ⟨oO, oG, oH, ow2, 0, 0, 0⟩, rfl, ⟨⟨0, c.wait.flatMap En.cells, AHeap.get_skip u6.symm p3, AHeap.get_skip u8.symm p4, by rw [flat_len (sz := 3) (fun _ => rfl)]; omega, rfl⟩, ⟨es2, AHeap.get_skip u7.symm p5, hG2⟩, ⟨es3, AHeap.get_skip u9.symm p6, hH3⟩⟩, ⟨d1.symm, d2.symm, d3.symm, d4, d5, d6⟩, fun p hp => ?_, fun p y hp => ?_⟩
      · simp only [Ob.c, List.mem_cons, List.not_mem_nil, or_false] at hp
        rcases hp with e | e | e | e <;> rw [e]
        · exact hoO
        · exact r2
        · exact r3
        · exact r1
      · by_cases hF : p = F.oh
        · rw [hF, hh] at hp; cases hp; rw [hF]; exact AHeap.set_self _ _ _
        · exact AHeap.get_skip hF (p7 p y hp hF)
end Go.Proofs.Ytbciofnejefkiaa

namespace Go.Proofs.Ytbciofnejefkiaa

namespace Ag
variable {g0 g : Gh} {r : Nat} {d0 : Co} {s : St}
theorem lay_c (s : St) : s.lay.c = s.c ∧ s.lay.save = s.save := by
  have : ∀ (l : List Nat) (s : St), (l.foldl (fun (s : St) (to : Nat) => s.out (layM s.c to)) s).c = s.c ∧ (l.foldl (fun (s : St) (to : Nat) => s.out (layM s.c to)) s).save = s.save := by
    intro l
    induction l with
    | nil => intro s; exact ⟨rfl, rfl⟩
    | cons a l ih => intro s; simp only [List.foldl_cons]; rw [(ih _).1, (ih _).2, out_c, out_save]; exact ⟨rfl, rfl⟩
  exact this _ s
theorem tell_c (s : St) (m : Mg) : (s.tell m).c = s.c ∧ (s.tell m).save = s.save := by
  have : ∀ (l : List Nat) (s : St), (l.foldl (fun (s : St) (to : Nat) => s.out { m with to := (to : Int) }) s).c = s.c ∧ (l.foldl (fun (s : St) (to : Nat) => s.out { m with to := (to : Int) }) s).save = s.save := by
    intro l
    induction l with
    | nil => intro s; exact ⟨rfl, rfl⟩
    | cons a l ih => intro s; simp only [List.foldl_cons]; rw [(ih _).1, (ih _).2, out_c, out_save]; exact ⟨rfl, rfl⟩
  exact this _ s
theorem settle_same (c : Co) : c.settle.view = c.view ∧ c.settle.me = c.me ∧ c.settle.n = c.n ∧ c.settle.list = c.list ∧ c.settle.last = c.last ∧ c.settle.lead = c.lead ∧ c.settle.wait = c.wait ∧ base c.settle = base c := by
  unfold Co.settle; dsimp only
  split <;> exact ⟨rfl, rfl, rfl, rfl, rfl, rfl, rfl, rfl⟩
theorem grow_view (s : St) : s.grow.c.view = s.c.view := by
  unfold St.grow; dsimp only
  rw [(lay_c _).1]
  show (Co.settle _).view = _
  rw [(settle_same _).1]
  split
  · rw [take_c]
  · rfl
theorem won_view (s : St) : s.won.c.view = s.c.view := by
  unfold St.won; dsimp only
  split
  · rfl
  · rw [grow_view, take_c]
theorem count_view (s : St) (q : Nat) (v : Vt) : (s.count q v).c.view = s.c.view := by
  unfold St.count
  split
  · rfl
  · rw [won_view]
theorem vote_view (s : St) : s.vote.c.view = s.c.view := by
  unfold St.vote; dsimp only
  split
  · exact count_view _ _ _
  · rw [out_c]

theorem lay_mok {c : Co} (G : GOK g) (hc : COK g c) (hl : c.view % g.n = c.me) (he : c.last = c.view) (to : Nat) (ht : to < g.n) (hne : to ≠ c.me) :
    MOK g { layM c to with from_ := (c.me : Int), view := c.view } := by
  have hlok := hc.lok G
  have hcur := hc.cur
  rw [he] at hcur
  have hme := hc.me
  have hcomm := hc.comm
  rw [he] at hcomm
  have hini : g.ini c.view ≤ c.list.length := by
    obtain ⟨_, _, _, _, _, x⟩ := G.acc _ hme _ _ hcur; exact x
  have h200 := hlok.len
  have hagr := hc.agr
  have hA : ∀ es : List En, es = [] ∨ es = c.list → ∀ k : Int, (k = 6 ∧ es = []) ∨ (k = 4 ∧ es = c.list) → MOK g ⟨k, (c.me : Int), (to : Int), c.view, 0, c.list.length, c.agreed, es, []⟩ := by
    intro es hes k hk
    refine ⟨⟨by show (0 : Int) ≤ (c.me : Int); omega, by show (c.me : Int) < _; omega⟩, ⟨by show (0 : Int) ≤ (to : Int); omega, by show (to : Int) < _; omega⟩, ?_, ?_, hc.most, Nat.zero_le _, h200, Nat.le_trans hagr h200, ?_, rfl, fun h => ?_, fun _ => ?_, fun h => ?_, fun h => ?_⟩
    · show (to : Int) ≠ (c.me : Int); omega
    · show 1 ≤ k ∧ k ≤ 6; omega
    · show LOK g.S es
      rcases hes with rfl | rfl
      · exact LOK.nil
      · exact hlok
    · have h' : k = 3 := h; omega
    · refine ⟨?_, c.list, ?_, hagr, hcomm⟩
      · show (c.me : Int) = ((c.view % g.n : Nat) : Int); rw [hl]
      · show g.acc (c.view % g.n) c.view = _; rw [hl]; exact hcur
    · have h' : k = 4 := h
      have : es = c.list := by rcases hk with ⟨x, _⟩ | ⟨_, x⟩; omega; exact x
      subst this
      exact ⟨c.list, by show g.acc (c.view % g.n) c.view = _; rw [hl]; exact hcur, List.prefix_refl _, hini⟩
    · have h' : k = 5 := h; omega
  unfold layM msg0; dsimp only
  split
  · split
    · exact hA _ (.inr rfl) 4 (.inr ⟨rfl, rfl⟩)
    · exact hA _ (.inl rfl) 6 (.inl ⟨rfl, rfl⟩)
  · exact hA _ (.inr rfl) 4 (.inr ⟨rfl, rfl⟩)
theorem layM_to (c : Co) (to : Nat) : (layM c to).to = (to : Int) := by
  unfold layM msg0; dsimp only
  split
  · split <;> rfl
  · rfl
theorem SOK.lay (h : SOK g0 r d0 g s) (hl : s.c.view % g.n = r) (he : s.c.last = s.c.view) : SOK g0 r d0 g s.lay := by
  have hn := h.cok.n
  unfold St.lay
  rw [hn, outs_view (layM s.c) (fun s => layM s.c) s.c (fun t ht => by simp only [ht]) _ s rfl]
  refine (SOK.outs (layM s.c) (fun to ht hne => ?_) g.n (Nat.le_refl _) s.c rfl h).1
  have hme := h.me
  rw [layM_to] at hne
  have := lay_mok h.gok h.cok (by rw [hl, hme]) he to ht (by rw [hme]; omega)
  rw [hme] at this; exact this
theorem SOK.tell2 (h : SOK g0 r d0 g s) : SOK g0 r d0 g (s.tell (msg0 2 0)) := by
  have hn := h.cok.n
  unfold St.tell
  rw [hn]
  refine (SOK.outs (fun to => { msg0 2 0 with to := (to : Int) }) (fun to ht hne => ?_) g.n (Nat.le_refl _) s.c rfl h).1
  have hrn : r < g.n := by rw [← h.me]; exact h.cok.me
  refine ⟨⟨by show (0 : Int) ≤ (r : Int); omega, by show (r : Int) < _; omega⟩, ⟨by show (0 : Int) ≤ (to : Int); omega, by show (to : Int) < _; omega⟩, hne, by show (1 : Int) ≤ 2 ∧ (2 : Int) ≤ 6; decide, h.cok.most, Nat.zero_le _, Nat.zero_le _, Nat.zero_le _, LOK.nil, rfl, fun h => by exact absurd h (by show ¬ (2 : Int) = _; decide), fun h => by rcases h with h | h <;> exact absurd h (by show ¬ (2 : Int) = _; decide), fun h => by exact absurd h (by show ¬ (2 : Int) = _; decide), fun h => by exact absurd h (by show ¬ (2 : Int) = _; decide)⟩
theorem grown_ok {S : List (Nat × List Int)} : ∀ (w l : List En), LOK S l → (∀ e ∈ w, EOK S e) → LOK S (grown l w) ∧ l <+: grown l w
  | [], l, h, _ => ⟨h, List.prefix_refl _⟩
  | e :: w, l, h, hw => by
    unfold grown
    simp only [List.foldl_cons]
    have hw' : ∀ x ∈ w, EOK S x := fun x hx => hw x (List.mem_cons_of_mem _ hx)
    split
    · next hc =>
      have h1 : LOK S (l ++ [e]) := ⟨fun x hx => by
          rcases List.mem_append.1 hx with hx | hx
          · exact h.all x hx
          · rw [List.mem_singleton.1 hx]; exact hw e (List.mem_cons_self), uniq_snoc h.uniq hc.2, by rw [List.length_append, List.length_singleton]; omega⟩
      obtain ⟨h2, h3⟩ := grown_ok w (l ++ [e]) h1 hw'
      exact ⟨h2, (List.prefix_append _ _).trans h3⟩
    · exact grown_ok w l h hw'
theorem SOK.grow (h : SOK g0 r d0 g s) (hl : s.c.lead = true) : ∃ g', Le g g' ∧ SOK g0 r d0 g' s.grow := by
  have hc := h.cok
  have hme := h.me
  obtain ⟨hv, he⟩ := hc.lead hl
  obtain ⟨h1, h2⟩ := grown_ok s.c.wait s.c.list (hc.lok h.gok) hc.wait
  unfold St.grow; dsimp only
  generalize grown s.c.list s.c.wait = l at *
  have hs : SOK g0 r d0 g { s with c := { s.c with wait := [] } } := by
    refine h.mem ?_ rfl
    exact ⟨hc.me, hc.n, hc.view, hc.most, hc.last, hc.cur, hc.later, hc.agr, hc.comm, hc.got, hc.held, hc.lead, fun e he => (by cases he), Nat.zero_le _⟩
  have key : ∀ (t : St) (g' : Gh), Le g g' → SOK g0 r d0 g' t → t.c.view = s.c.view → t.c.last = s.c.view → ∃ g', Le g g' ∧ SOK g0 r d0 g' (St.lay { t with c := t.c.settle }) := by
    intro t g' a ht e1 e2
    have hm := ht.me
    have e3 : t.c.view % g'.n = t.c.me := by rw [hm, e1, a.n, hv, hme]
    refine ⟨g', a, ?_⟩
    obtain ⟨z1, z2, z3, z4, z5, z6, z7, z8⟩ := settle_same t.c
    have h3 := ht.mem (settle_ok ht.gok ht.cok e3 (by rw [e1, e2])) z8
    refine h3.lay ?_ ?_
    · show (t.c.settle).view % _ = r; rw [z1, e3, hm]
    · show (t.c.settle).last = (t.c.settle).view; rw [z5, z1, e1, e2]
  split
  · obtain ⟨g', a, h3⟩ := hs.take (l := l) h1 (fun _ => h2) ((List.take_prefix _ _).trans h2) (.inl ⟨by show s.c.view % _ = r; rw [hv, hme], fun hlt => by have : s.c.last < s.c.view := hlt; omega⟩)
    have hv2 : ({ s with c := { s.c with wait := [] } } : St).c.view = s.c.view := rfl
    rw [hv2] at h3
    exact key _ g' a h3 (by rw [take_c]) (by rw [take_c])
  · exact key _ g (Le.refl _) hs rfl he
theorem SOK.won {t : St} (h1 : SOK g0 r d0 g t) (hl : t.c.view % g.n = r) : ∃ g', Le g g' ∧ SOK g0 r d0 g' t.won := by
  have hC' : COK g t.c := h1.cok
  unfold St.won; dsimp only
  split
  · exact ⟨g, Le.refl _, h1⟩
  next hn =>
  rw [not_or] at hn
  have htm := h1.me
  obtain ⟨b1, b2, b3, b4⟩ := best_ok h1.gok hC' (by rw [hl, htm]) (by omega)
  obtain ⟨g', a, h2⟩ := h1.take b1 b2 b3 (.inl ⟨hl, b4⟩)
  have h3 := h2.cok
  rw [take_c] at h3
  have h4 : COK g' { (t.take t.c.view t.c.best.list).c with lead := true, got := fun _ => none } := by
    rw [take_c]
    exact ⟨h3.me, h3.n, h3.view, h3.most, h3.last, h3.cur, h3.later, h3.agr, h3.comm, fun p x hx => (by cases hx), h3.held, fun _ => ⟨by show t.c.view % g'.n = t.c.me; rw [a.n, hl, htm], rfl⟩, h3.wait, h3.waitn⟩
  obtain ⟨g'', a', h5⟩ := (h2.mem h4 (by simp only [take_c, base])).grow rfl
  exact ⟨g'', a.trans a', h5⟩
theorem SOK.count (h : SOK g0 r d0 g s) {q : Nat} {v : Vt} (hq : q < g.n) (hv : VoteOK g q s.c.view v.last v.list) (hl : s.c.view % g.n = r) : ∃ g', Le g g' ∧ SOK g0 r d0 g' (s.count q v) := by
  have hc := h.cok
  have hme := h.me
  unfold St.count
  split
  · exact ⟨g, Le.refl _, h⟩
  have hC : COK g { s.c with got := upd s.c.got q (some v) } := by
    refine ⟨hc.me, hc.n, hc.view, hc.most, hc.last, hc.cur, hc.later, hc.agr, hc.comm, fun p x hx => ?_, hc.held, hc.lead, hc.wait, hc.waitn⟩
    have hx' : upd s.c.got q (some v) p = some x := hx
    unfold upd at hx'
    split at hx'
    · next e => subst e; cases hx'; exact ⟨hq, hv, by show s.c.view % g.n = s.c.me; rw [hl, hme]⟩
    · exact hc.got p x hx'
  exact (h.mem hC rfl : SOK g0 r d0 g { s with c := { s.c with got := upd s.c.got q (some v) } }).won hl
theorem SOK.vote (h : SOK g0 r d0 g s) : ∃ g', Le g g' ∧ SOK g0 r d0 g' s.vote := by
  have hc := h.cok
  have hme := h.me
  have hn := hc.n
  unfold St.vote; dsimp only
  have hV : VoteOK g s.c.me s.c.view s.c.last s.c.list := ⟨by rw [hc.view]; exact Nat.le_refl _, hc.last, s.c.list, hc.cur, List.prefix_refl _, fun _ => ⟨rfl, fun u hu _ => hc.later u hu⟩⟩
  split
  · next e => exact h.count hc.me hV (by rw [← hn, e, hme])
  · next e =>
    refine ⟨g, Le.refl _, h.out _ fun hne => ?_⟩
    have hmn := hc.me
    have hm : s.c.view % s.c.n < g.n := by rw [hn]; exact Nat.mod_lt _ h.gok.pos
    refine ⟨⟨by show (0 : Int) ≤ (s.c.me : Int); omega, by show (s.c.me : Int) < _; omega⟩, ⟨by show (0 : Int) ≤ ((s.c.view % s.c.n : Nat) : Int); omega, by show ((s.c.view % s.c.n : Nat) : Int) < _; omega⟩, hne, by show (1 : Int) ≤ 3 ∧ (3 : Int) ≤ 6; decide, hc.most, hc.last, Nat.zero_le _, Nat.zero_le _, hc.lok h.gok, rfl, fun _ => hV, fun h => by rcases h with h | h <;> exact absurd h (by show ¬ (3 : Int) = _; decide), fun h => by exact absurd h (by show ¬ (3 : Int) = _; decide), fun h => by exact absurd h (by show ¬ (3 : Int) = _; decide)⟩
theorem SOK.begin (h : SOK g0 r d0 g s) : ∃ g', Le g g' ∧ SOK g0 r d0 g' s.begin := by
  unfold St.begin
  split
  · next hm =>
    obtain ⟨g1, a1, h1⟩ := h.promise (v := s.c.view + 1) (by omega) (by omega)
    obtain ⟨g2, a2, h2⟩ := h1.tell2.vote
    exact ⟨g2, a1.trans a2, h2⟩
  · exact ⟨g, Le.refl _, h⟩
theorem wanted_lead (c : Co) (e : En) : (c.wanted e).2 = true → (c.wanted e).1.lead = true := by
  unfold Co.wanted; split
  · intro h; cases h
  · exact id
theorem SOK.wanted (h : SOK g0 r d0 g s) {e : En} (he : may e = true → EOK g.S e) : SOK g0 r d0 g { s with c := (s.c.wanted e).1 } := by
  have hc := h.cok
  unfold Co.wanted
  split
  · exact h
  · next hm =>
    rw [not_or] at hm
    have hE := he (by cases hx : may e; exact absurd hx hm.1; rfl)
    refine h.mem ⟨hc.me, hc.n, hc.view, hc.most, hc.last, hc.cur, hc.later, hc.agr, hc.comm, hc.got, hc.held, hc.lead, fun x hx => ?_, ?_⟩ rfl
    · rcases List.mem_append.1 hx with hx | hx
      · split at hx
        · exact hc.wait x (List.mem_of_mem_drop hx)
        · exact hc.wait x hx
      · rw [List.mem_singleton.1 hx]; exact hE
    · have := hc.waitn
      show (_ ++ [e]).length ≤ 200
      rw [List.length_append, List.length_singleton]
      split
      · rw [List.length_drop]; omega
      · next hx => omega
theorem SOK.want (h : SOK g0 r d0 g s) {e : En} (he : may e = true → EOK g.S e) : ∃ g', Le g g' ∧ SOK g0 r d0 g' (s.want e) := by
  unfold St.want; dsimp only
  have h1 := h.wanted he
  split
  · next hl => exact h1.grow (wanted_lead _ _ hl)
  · exact ⟨g, Le.refl _, h1⟩
theorem SOK.wants : ∀ (l : List En) {g : Gh} {s : St}, SOK g0 r d0 g s → (∀ e ∈ l, EOK g.S e) → ∃ g', Le g g' ∧ SOK g0 r d0 g' (l.foldl St.want s)
  | [], g, s, h, _ => ⟨g, Le.refl _, h⟩
  | e :: l, g, s, h, he => by
    obtain ⟨g1, a1, h1⟩ := h.want (e := e) fun _ => he e (List.mem_cons_self)
    obtain ⟨g2, a2, h2⟩ := SOK.wants l h1 fun x hx => (he x (List.mem_cons_of_mem _ hx)).mono a1.S
    exact ⟨g2, a1.trans a2, h2⟩
theorem SOK.init (G : GOK g) {c : Co} (hc : COK g c) : SOK g c.me (base c) g ⟨c, [], []⟩ where
  le := Le.refl _
  only := Only.refl _ _
  gok := G
  cok := hc
  me := rfl
  send m hm := by cases hm
  disk := rfl
  part k := ⟨g, c, Le.refl _, Only.refl _ _, G, hc, rfl, by rw [List.take_nil]; rfl⟩
theorem submit_ok (G : GOK g) {c : Co} (hc : COK g c) (id : Nat) (row : List Int) (he : may ⟨id, 0, row⟩ = true → EOK g.S ⟨id, 0, row⟩) : ∃ g', Le g g' ∧ SOK g c.me (base c) g' (c.submit id row) := by
  have h0 := SOK.init G hc
  have h1 : ∃ g', Le g g' ∧ SOK g c.me (base c) g' (if c.n = 1 ∧ c.lead = false then St.begin ⟨c, [], []⟩ else ⟨c, [], []⟩) := by
    split
    · exact h0.begin
    · exact ⟨g, Le.refl _, h0⟩
  obtain ⟨g1, a1, h1⟩ := h1
  unfold Co.submit; dsimp only
  generalize (if c.n = 1 ∧ c.lead = false then St.begin ⟨c, [], []⟩ else ⟨c, [], []⟩) = s at *
  have he1 : may ⟨id, 0, row⟩ = true → EOK g1.S ⟨id, 0, row⟩ := fun h => (he h).mono a1.S
  have h2 := h1.wanted he1
  split
  · next hl =>
    obtain ⟨g2, a2, h3⟩ := h2.grow (wanted_lead _ _ hl)
    exact ⟨g2, a1.trans a2, h3⟩
  · split
    · next hm =>
      have hE := he1 hm.1
      refine ⟨g1, a1, h2.out _ fun hne => ?_⟩
      have hc2 := h2.cok
      have hmn := hc2.me
      generalize hw : (s.c.wanted ⟨id, 0, row⟩).1 = w at *
      have hm : w.view % w.n < g1.n := by have := hc2.n; simp only at this; rw [this]; exact Nat.mod_lt _ h1.gok.pos
      simp only at hmn
      refine ⟨⟨by show (0 : Int) ≤ (w.me : Int); omega, by show (w.me : Int) < _; omega⟩, ⟨by show (0 : Int) ≤ ((w.view % w.n : Nat) : Int); omega, by show ((w.view % w.n : Nat) : Int) < _; omega⟩, hne, by show (1 : Int) ≤ 1 ∧ (1 : Int) ≤ 6; decide, hc2.most, Nat.zero_le _, Nat.zero_le _, Nat.zero_le _, LOK.sing hE, rfl, fun h => by exact absurd h (by show ¬ (1 : Int) = _; decide), fun h => by rcases h with h | h <;> exact absurd h (by show ¬ (1 : Int) = _; decide), fun h => by exact absurd h (by show ¬ (1 : Int) = _; decide), fun h => by exact absurd h (by show ¬ (1 : Int) = _; decide)⟩
    · exact ⟨g1, a1, h2⟩
theorem SOK.quiet (h : SOK g0 r d0 g s) (k : Nat) : SOK g0 r d0 g { s with c := { s.c with quiet := k } } := by
  have hc := h.cok
  exact h.mem ⟨hc.me, hc.n, hc.view, hc.most, hc.last, hc.cur, hc.later, hc.agr, hc.comm, hc.got, hc.held, hc.lead, hc.wait, hc.waitn⟩ rfl
theorem tick_ok (G : GOK g) {c : Co} (hc : COK g c) : ∃ g', Le g g' ∧ SOK g c.me (base c) g' c.tick := by
  have h0 := SOK.init G hc
  unfold Co.tick; dsimp only
  split
  · next hl => exact h0.grow hl
  · have h1 := h0.quiet (c.quiet + 1)
    split
    · exact h1.begin
    · split
      · exact h1.vote
      · exact ⟨g, Le.refl _, h1⟩
theorem SOK.fin (h : SOK g0 r d0 g s) {m : Mg} (hm : MOK g m) (hk : m.kind = 4 ∨ m.kind = 6) (hv : m.view = s.c.view) : SOK g0 r d0 g (s.fin m) := by
  have hc := h.cok
  unfold St.fin
  split
  · next he =>
    obtain ⟨_, L, h1, h2, h3⟩ := hm.lead hk
    have hcur := hc.cur
    rw [he] at hcur
    obtain ⟨_, _, L', h4, h5, _⟩ := h.gok.acc _ hc.me _ _ hcur
    rw [h1] at h4; cases h4
    have hC : Comm g s.c.last (s.c.list.take (min m.commit s.c.list.length)) := by
      rw [he]
      refine h3.mono (Nat.le_refl _) ?_
      exact List.prefix_of_prefix_length_le ((List.take_prefix _ _).trans h5) (List.take_prefix _ _) (by rw [List.length_take, List.length_take]; omega)
    refine h.mem ⟨hc.me, hc.n, hc.view, hc.most, hc.last, hc.cur, hc.later, ?_, ?_, hc.got, hc.held, hc.lead, hc.wait, hc.waitn⟩ rfl
    · have := hc.agr
      show max s.c.agreed (min m.commit s.c.list.length) ≤ s.c.list.length
      omega
    · show Comm g s.c.last (s.c.list.take (max s.c.agreed (min m.commit s.c.list.length)))
      rcases Nat.le_total s.c.agreed (min m.commit s.c.list.length) with h | h
      · rw [Nat.max_eq_right h]; exact hC
      · rw [Nat.max_eq_left h]; exact hc.comm
  · exact h
theorem SOK.hold (hu : SOK g0 r d0 g s) {m : Mg} (hM : MOK g m) (hk : m.kind = 4 ∨ m.kind = 6) (hv : m.view = s.c.view) (hl : s.c.last = s.c.view) (hmr : m.from_ ≠ (r : Int)) : SOK g0 r d0 g (s.hold m) := by
  have hcu := hu.cok
  have hmu := hu.me
  have hrn := hcu.me
  have hcur := hcu.cur
  rw [hl] at hcur
  unfold St.hold
  refine SOK.fin (hu.out _ fun hne' => ?_) hM hk (by rw [out_c]; exact hv)
  refine ⟨⟨by show (0 : Int) ≤ (s.c.me : Int); omega, by show (s.c.me : Int) < _; omega⟩, hM.from_, ?_, by show (1 : Int) ≤ 5 ∧ (5 : Int) ≤ 6; decide, hcu.most, Nat.zero_le _, (hcu.lok hu.gok).len, Nat.zero_le _, LOK.nil, rfl, fun h => by exact absurd h (by show ¬ (5 : Int) = _; decide), fun h => by rcases h with h | h <;> exact absurd h (by show ¬ (5 : Int) = _; decide), fun h => by exact absurd h (by show ¬ (5 : Int) = _; decide), fun _ => ⟨s.c.list, ?_, Nat.le_refl _⟩⟩
  · show m.from_ ≠ (s.c.me : Int); rw [hmu]; exact hmr
  · show g.acc ((s.c.me : Int)).toNat s.c.view = _
    rw [Int.toNat_natCast]; exact hcur
theorem SOK.heard (h : SOK g0 r d0 g s) {m : Mg} (hm : MOK g m) (hk : m.kind = 4 ∨ m.kind = 6) (hv : m.view = s.c.view) (ht : m.to = (r : Int)) (hf : m.from_ = ((s.c.view % s.c.n : Nat) : Int)) : ∃ g', Le g g' ∧ SOK g0 r d0 g' (s.heard m) := by
  have hc := h.cok
  have hn := hc.n
  rw [hn] at hf
  unfold St.heard
  split
  · next h4 =>
    split
    · exact ⟨g, Le.refl _, h⟩
    · next hb =>
      obtain ⟨L, x1, x2, x3⟩ := hm.lays h4
      have hlok := hc.lok h.gok
      have hbp := (begins_iff hm.ents.z (hlok.z.take _)).1 (by cases hx : begins m.ents (s.c.list.take s.c.agreed); exact absurd hx hb; rfl)
      have hne : s.c.view % g.n ≠ r := fun e => hm.ne (by rw [ht, hf, e])
      have hmr : m.from_ ≠ (r : Int) := fun e => hm.ne (by rw [ht, e])
      split
      · next hlt =>
        rw [hv] at hlt x1 x3
        obtain ⟨g', a, h5⟩ := h.take hm.ents (fun he => by
          have hcur := hc.cur
          rw [he] at hcur
          obtain ⟨_, _, L', y1, y2, _⟩ := h.gok.acc _ hc.me _ _ hcur
          rw [x1] at y1; cases y1
          exact List.prefix_of_prefix_length_le y2 x2 (by omega)) hbp (.inr ⟨hne, L, x1, x2, x3⟩)
        rw [← hv] at h5
        exact ⟨g', a, h5.hold (hm.le a) hk (by rw [take_c]; exact hv) (by rw [take_c]; exact hv) hmr⟩
      · next hlt =>
        have := hc.last
        exact ⟨g, Le.refl _, h.hold hm hk hv (by omega) hmr⟩
  · exact ⟨g, Le.refl _, h.fin hm hk hv⟩
theorem SOK.hear (h : SOK g0 r d0 g s) {m : Mg} (hm : MOK g m) (hk : m.kind = 4 ∨ m.kind = 6) (hv : m.view = s.c.view) (ht : m.to = (r : Int)) (hf : m.from_ = ((s.c.view % s.c.n : Nat) : Int)) : ∃ g', Le g g' ∧ SOK g0 r d0 g' (s.hear m) :=
  (h.quiet 0).heard hm hk hv ht hf
theorem get_ok (G : GOK g) {c : Co} (hc : COK g c) {m : Mg} (hm : MOK g m) : ∃ g', Le g g' ∧ SOK g c.me (base c) g' (c.get m) := by
  have h0 := SOK.init G hc
  unfold Co.get; dsimp only
  split
  · exact ⟨g, Le.refl _, h0⟩
  next hodd =>
  unfold Co.odd at hodd
  simp only [not_or, Classical.not_not] at hodd
  obtain ⟨_, ht, _, _, hmv, _⟩ := hodd
  split
  · exact SOK.wants m.ents h0 fun e he => hm.ents.all e he
  next hk1 =>
  have h1 : ∃ g', Le g g' ∧ SOK g c.me (base c) g' (if c.view < m.view then (St.promise ⟨c, [], []⟩ m.view).vote else ⟨c, [], []⟩) ∧ m.view ≤ (if c.view < m.view then (St.promise ⟨c, [], []⟩ m.view).vote else (⟨c, [], []⟩ : St)).c.view := by
    split
    · next hlt =>
      obtain ⟨g1, a1, h1⟩ := h0.promise (v := m.view) (by show c.view ≤ _; omega) (by omega)
      obtain ⟨g2, a2, h2⟩ := h1.vote
      refine ⟨g2, a1.trans a2, h2, ?_⟩
      rw [vote_view]; exact Nat.le_refl _
    · next hlt => exact ⟨g, Le.refl _, h0, by show _ ≤ c.view; omega⟩
  obtain ⟨g1, a1, h1, h2⟩ := h1
  generalize (if c.view < m.view then (St.promise ⟨c, [], []⟩ m.view).vote else (⟨c, [], []⟩ : St)) = s at *
  split
  · exact ⟨g1, a1, h1⟩
  next hlt =>
  have hv : m.view = s.c.view := by omega
  have hM := hm.le a1
  have hc1 := h1.cok
  have hn1 := hc1.n
  have hme1 := h1.me
  have hfl : m.from_.toNat < g1.n := by have := hM.from_; omega
  split
  · next hk =>
    split
    · next hl =>
      obtain ⟨g2, a2, h3⟩ := h1.count (q := m.from_.toNat) (v := ⟨m.last, m.ents⟩) hfl (by rw [← hv]; exact hM.vote hk) (by rw [← hn1, hl.1, hme1])
      exact ⟨g2, a1.trans a2, h3⟩
    · exact ⟨g1, a1, h1⟩
  split
  · next hk =>
    split
    · next hl =>
      obtain ⟨y1, y2⟩ := hc1.lead hl
      obtain ⟨l, z1, z2⟩ := hM.hold hk
      have hC : COK g1 { s.c with held := upd s.c.held m.from_.toNat (some (max ((s.c.held m.from_.toNat).getD 0) m.op)) } := by
        refine ⟨hc1.me, hc1.n, hc1.view, hc1.most, hc1.last, hc1.cur, hc1.later, hc1.agr, hc1.comm, hc1.got, fun q x hx => ?_, hc1.lead, hc1.wait, hc1.waitn⟩
        have hx' : upd s.c.held m.from_.toNat (some (max ((s.c.held m.from_.toNat).getD 0) m.op)) q = some x := hx
        unfold upd at hx'
        split at hx'
        · next e =>
          subst e
          have hx := (Option.some.inj hx').symm
          refine ⟨hfl, l, by rw [← hv]; exact z1, ?_⟩
          cases hh : s.c.held m.from_.toNat with
          | none => rw [hh] at hx; simp only [Option.getD_none] at hx; omega
          | some h =>
            rw [hh] at hx; simp only [Option.getD_some] at hx
            obtain ⟨_, l', w1, w2⟩ := hc1.held _ _ hh
            rw [← hv, z1] at w1; cases w1
            omega
        · exact hc1.held q x hx'
      refine ⟨g1, a1, h1.mem (settle_ok h1.gok hC y1 y2) ?_⟩
      rw [(settle_same _).2.2.2.2.2.2.2]; rfl
    · exact ⟨g1, a1, h1⟩
  split
  · next hk =>
    split
    · next hf =>
      obtain ⟨g2, a2, h3⟩ := h1.hear hM hk hv ht hf
      exact ⟨g2, a1.trans a2, h3⟩
    · exact ⟨g1, a1, h1⟩
  · exact ⟨g1, a1, h1⟩
end Ag
end Go.Proofs.Ytbciofnejefkiaa

namespace Go.Proofs.Ytbciofnejefkiaa

namespace Ag
structure WG (g : Gh) (w : W) : Prop where
  gok : GOK g
  n : g.n = w.n
  n7 : w.n ≤ 7
  S : g.S = w.ids
  c : ∀ r, r < w.n → COK g (w.c r) ∧ (w.c r).me = r
  disk : ∀ r, r < w.n → (Co.new r w.n).replay (w.saved r) = some (base (w.c r))
  l : ∀ m ∈ w.l, MOK g m
  best : ∃ v, Comm g v w.best
variable {g g' : Gh} {w : W}

theorem encR_len' (l : List Int) : (encR l).length ≤ 11 * l.length := by
  induction l with
  | nil => simp [encR]
  | cons v l ih => have := encU_len 10 (zig v); simp only [encR, List.flatMap_cons, List.length_append, List.length_cons] at ih ⊢; omega
theorem encE_len' (e : En) : (encE e).length ≤ 33 + 11 * e.row.length := by
  have h1 := encU_len 10 e.id
  have h2 := encU_len 10 e.view
  have h3 := encU_len 10 e.row.length
  have h4 := encR_len' e.row
  simp only [encE, List.length_append]; omega
theorem encEs_len' : ∀ (l : List En), (∀ e ∈ l, e.row.length ≤ 16) → (encEs l).length ≤ 220 * l.length
  | [], _ => by simp [encEs]
  | e :: l, h => by
    have h1 := h e (List.mem_cons_self)
    have h2 := encEs_len' l fun x hx => h x (List.mem_cons_of_mem _ hx)
    have h3 := encE_len' e
    have h4 := encU_len 10 (encE e).length
    have h5 : encEs (e :: l) = (encU 10 (encE e).length ++ encE e) ++ encEs l := by simp [encEs, enc1]
    rw [h5, List.length_append, List.length_append, List.length_cons]; omega
theorem encUs_len' (l : List Nat) : (encUs l).length ≤ 11 * l.length := by
  induction l with
  | nil => simp [encUs]
  | cons v l ih => have := encU_len 10 v; simp only [encUs, List.flatMap_cons, List.length_append, List.length_cons] at ih ⊢; omega
theorem MOK.good {m : Mg} (h : MOK g m) (h7 : g.n ≤ 7) : m.good := by
  have hr : ∀ e ∈ m.ents, e.row.length ≤ 16 := fun e he => (h.ents.all e he).row
  refine ⟨⟨by have := h.kind; omega, by have := h.from_; omega, by have := h.to; omega, h.ents.len, by rw [h.body]; simp, ?_⟩, ?_⟩
  · unfold wide
    rw [List.any_eq_false]
    intro e he
    rw [decide_eq_true_eq]
    have := hr e he; omega
  · have h1 := encR_len' [m.kind, m.from_, m.to]
    have h2 := encUs_len' [m.view, m.last, m.op, m.commit, m.ents.length]
    have h3 := encEs_len' m.ents hr
    have h4 := encU_len 10 m.body.length
    have h5 := h.ents.len
    have h6 : m.body.length = 0 := by rw [h.body]; rfl
    simp only [List.length_cons, List.length_nil] at h1 h2
    simp only [textB, List.length_append]
    omega
theorem MOK.okm {m : Mg} (h : MOK g m) (h7 : g.n ≤ 7) : m.Ok := by
  have h1 := h.kind
  have h2 := h.from_
  have h3 := h.to
  have h4 := h.view
  have h5 := h.last
  have h6 := h.op
  have h8 := h.commit
  unfold mostView at h4
  exact ⟨by unfold b64; omega, by unfold b64; omega, by unfold b64; omega, by omega, by omega, by omega, by omega, fun e he => (h.ents.all e he).ok⟩

theorem toldL_ok {ids : List (Nat × List Int)} : ∀ (l pre b : List En), uniq (pre ++ l) = true → (∀ e ∈ l, (e.id, e.row) ∈ ids) → ((pre ++ l <+: b) ∨ (b <+: pre ++ l ∧ pre.length ≤ b.length)) →
    ∃ b', toldL ids pre l b = some b' ∧ (b' = b ∨ b' = pre ++ l)
  | [], pre, b, _, _, _ => ⟨b, rfl, .inl rfl⟩
  | e :: l, pre, b, hu, hm, hp => by
    have e0 : pre ++ e :: l = (pre ++ [e]) ++ l := by simp
    have hm' : ∀ x ∈ l, (x.id, x.row) ∈ ids := fun x hx => hm x (List.mem_cons_of_mem _ hx)
    unfold toldL
    cases hb : b[pre.length]? with
    | some y =>
      have hy : y = e := by
        rcases hp with ⟨t, rfl⟩ | ⟨⟨t, ht⟩, _⟩
        · have : ((pre ++ e :: l) ++ t)[pre.length]? = some e := by simp
          rw [this] at hb; exact (Option.some.inj hb).symm
        · have hlt := (List.getElem?_eq_some_iff.1 hb).1
          have : (b ++ t)[pre.length]? = some y := by rw [List.getElem?_append_left hlt]; exact hb
          rw [ht] at this
          have h2 : (pre ++ e :: l)[pre.length]? = some e := by simp
          rw [h2] at this; exact (Option.some.inj this).symm
      subst hy
      dsimp only
      rw [if_neg (by simp)]
      have hlt := (List.getElem?_eq_some_iff.1 hb).1
      obtain ⟨b', h1, h2⟩ := toldL_ok l (pre ++ [y]) b (by rw [← e0]; exact hu) hm' (by
        rw [← e0]
        rcases hp with h | ⟨h, _⟩
        · exact .inl h
        · exact .inr ⟨h, by rw [List.length_append, List.length_singleton]; omega⟩)
      exact ⟨b', h1, by rw [e0]; exact h2⟩
    | none =>
      have hle : b.length ≤ pre.length := List.getElem?_eq_none_iff.1 hb
      have hbp : b = pre := by
        rcases hp with h | ⟨h, h2⟩
        · have := h.length_le; rw [List.length_append, List.length_cons] at this; omega
        · have h3 : pre <+: pre ++ e :: l := List.prefix_append _ _
          exact (List.prefix_of_prefix_length_le h h3 hle).eq_of_length (by omega)
      subst hbp
      dsimp only
      have hid : hasId b e.id = false := by
        rw [e0] at hu
        have h1 := (uniq_app hu).1
        cases hx : hasId b e.id with
        | false => rfl
        | true =>
          exfalso
          obtain ⟨x, hx1, hx2⟩ := hasId_get.1 hx
          clear hb hle hp hu e0
          induction b with
          | nil => cases hx1
          | cons a b ih =>
            simp only [List.cons_append, uniq, hasId_app, Bool.and_eq_true, Bool.not_eq_true', Bool.or_eq_false_iff] at h1
            rcases List.mem_cons.1 hx1 with rfl | hx1
            · have := h1.1.2; simp [hasId, hx2] at this
            · exact ih h1.2 (hasId_get.2 ⟨x, hx1, hx2⟩) hx1
      rw [if_pos ⟨by
        rw [List.any_eq_true]
        exact ⟨_, hm e (List.mem_cons_self), by simp⟩, hid⟩]
      obtain ⟨b', h1, h2⟩ := toldL_ok l (b ++ [e]) (b ++ [e]) (by rw [← e0]; exact hu) hm' (.inr ⟨by rw [← e0, e0]; exact List.prefix_append _ _, Nat.le_refl _⟩)
      refine ⟨b', h1, .inr ?_⟩
      rcases h2 with rfl | rfl
      · cases l with
        | nil => rfl
        | cons a l =>
          exfalso
          -- the list goes on: so does what is told
          have : ∀ (l pre b b' : List En), toldL ids pre l b = some b' → b <+: b' ∧ pre.length + l.length ≤ max b'.length (pre.length + 0) ∨ b.length < pre.length := by
            intro l
            induction l with
            | nil =>
              intro pre b b' h
              cases h
              rcases Nat.lt_or_ge b.length pre.length with h | h
              · exact .inr h
              · exact .inl ⟨List.prefix_refl _, by simp; omega⟩
            | cons a l ih =>
              intro pre b b' h
              rcases Nat.lt_or_ge b.length pre.length with h' | h'
              · exact .inr h'
              left
              unfold toldL at h
              cases hb : b[pre.length]? with
              | some y =>
                rw [hb] at h; dsimp only at h
                split at h
                · cases h
                · have hlt := (List.getElem?_eq_some_iff.1 hb).1
                  rcases ih _ _ _ h with ⟨h1, h2⟩ | h1
                  · refine ⟨h1, ?_⟩
                    have := h1.length_le
                    simp only [List.length_append, List.length_cons, List.length_nil] at h2 ⊢; omega
                  · simp only [List.length_append, List.length_cons, List.length_nil] at h1; omega
              | none =>
                have hle : b.length ≤ pre.length := List.getElem?_eq_none_iff.1 hb
                rw [hb] at h; dsimp only at h
                split at h
                · rcases ih _ _ _ h with ⟨h1, h2⟩ | h1
                  · refine ⟨(List.prefix_append _ _).trans h1, ?_⟩
                    have := h1.length_le
                    simp only [List.length_append, List.length_cons, List.length_nil] at h2 this ⊢; omega
                  · simp only [List.length_append, List.length_cons, List.length_nil] at h1; omega
                · cases h
          rcases this _ _ _ _ h1 with ⟨_, h3⟩ | h3
          · simp only [List.length_append, List.length_cons, List.length_nil] at h3; omega
          · omega
      · rw [e0]
theorem told_ok (h : WG g w) {r : Nat} (hr : r < w.n) : ∃ b, w.told r = some { w with best := b } ∧ WG g { w with best := b } := by
  obtain ⟨hc, hm⟩ := h.c r hr
  obtain ⟨v, hb⟩ := h.best
  have hl := hc.comm
  have hlo := hl.lok h.gok
  have key : ∃ b, toldL w.ids [] ((w.c r).list.take (w.c r).agreed) w.best = some b ∧ (b = w.best ∨ b = (w.c r).list.take (w.c r).agreed) :=
    toldL_ok _ [] w.best hlo.uniq (fun e he => by rw [← h.S]; exact (hlo.all e he).mem) (by
      rw [List.nil_append]
      rcases hl.chain h.gok hb with h1 | h1
      · exact .inl h1
      · exact .inr ⟨h1, Nat.zero_le _⟩)
  obtain ⟨b, h1, h2⟩ := key
  refine ⟨b, ?_, ⟨h.gok, h.n, h.n7, h.S, h.c, h.disk, h.l, ?_⟩⟩
  · unfold W.told
    dsimp only
    rw [h1, Option.bind_some, if_pos hlo.len]
  · rcases h2 with rfl | rfl
    · exact ⟨v, hb⟩
    · exact ⟨_, hl⟩
theorem open_ok (G : GOK g) {c : Co} (hc : COK g c) {l : List Rd} (hl : (Co.new c.me c.n).replay l = some (base c)) : ∃ d, open_ c.me c.n l = some d ∧ COK g d ∧ base d = base c := by
  unfold open_
  rw [hl, Option.map_some]
  by_cases h1 : c.n = 1
  · rw [if_pos h1]
    refine ⟨_, rfl, ?_, rfl⟩
    have hb := hc.base G
    refine ⟨hb.me, hb.n, hb.view, hb.most, hb.last, hb.cur, hb.later, Nat.le_refl _, ?_, hb.got, hb.held, hb.lead, hb.wait, hb.waitn⟩
    show Comm g c.last (c.list.take c.list.length)
    rw [List.take_length]
    refine ⟨c.last, Nat.le_refl _, fun _ => true, quo_all G.pos, fun p hp _ => ⟨c.list, ?_, List.prefix_refl _⟩⟩
    have := hc.me
    have hn := hc.n
    have : p = c.me := by omega
    rw [this]; exact hc.cur
  · rw [if_neg h1]
    exact ⟨_, rfl, hc.base G, rfl⟩
theorem addL_mem {l : List Mg} : ∀ {s : List Mg} {m : Mg}, m ∈ s.foldl addL l → m ∈ l ∨ m ∈ s := by
  intro s
  induction s generalizing l with
  | nil => intro m h; exact .inl h
  | cons a s ih =>
    intro m h
    simp only [List.foldl_cons] at h
    rcases ih h with h | h
    · unfold addL at h
      split at h
      · rcases List.mem_append.1 h with h | h
        · exact .inl h
        · rw [List.mem_singleton.1 h]; exact .inr (List.mem_cons_self)
      · exact .inl h
    · exact .inr (List.mem_cons_of_mem _ h)
theorem upd_same {α : Type} (f : Nat → α) (i : Nat) (a : α) : upd f i a i = a := if_pos rfl
theorem upd_other {α : Type} (f : Nat → α) {i j : Nat} (a : α) (h : j ≠ i) : upd f i a j = f j := if_neg h
theorem WG.turn (h : WG g w) {r : Nat} (hr : r < w.n) (a : Le g g') (o : Only r g g') (G : GOK g') {c : Co} (hc : COK g' c) (hm : c.me = r) {sv : List Rd} (hd : (base (w.c r)).replay sv = some (base c)) :
    WG g' { w with c := upd w.c r c, saved := upd w.saved r (w.saved r ++ sv) } where
  gok := G
  n := a.n.trans h.n
  n7 := h.n7
  S := o.S.trans h.S
  c p hp := by
    show COK g' (upd w.c r c p) ∧ (upd w.c r c p).me = p
    by_cases e : p = r
    · rw [e, upd_same]; exact ⟨hc, hm⟩
    · obtain ⟨h1, h2⟩ := h.c p hp
      rw [upd_other _ _ e]; exact ⟨h1.le a o (by rw [h2]; exact e), h2⟩
  disk p hp := by
    show (Co.new p w.n).replay (upd w.saved r (w.saved r ++ sv) p) = some (base (upd w.c r c p))
    by_cases e : p = r
    · rw [e, upd_same, upd_same, replay_app, h.disk r hr, Option.bind_some, hd]
    · rw [upd_other _ _ e, upd_other _ _ e]; exact h.disk p hp
  l m hm := (h.l m hm).le a
  best := let ⟨v, hb⟩ := h.best; ⟨v, hb.le a⟩
theorem step_ok (h : WG g w) {r : Nat} (hr : r < w.n) {s : St} (hs : SOK g r (base (w.c r)) g' s) : ∃ w' g'', w.step r s = some w' ∧ WG g'' w' ∧ w'.n = w.n ∧ w'.ids = w.ids := by
  unfold W.step
  dsimp only
  cases hcut : w.cut r with
  | some k =>
    obtain ⟨h', c, a, o, G, hc, hm, hd⟩ := hs.part k
    have hw := h.turn hr a o G hc hm hd
    have hn : c.n = w.n := hc.n.trans (a.n.trans h.n)
    obtain ⟨d, d1, d2, d3⟩ := open_ok G hc (l := w.saved r ++ s.save.take k) (by rw [hm, hn, replay_app, h.disk r hr, Option.bind_some, hd])
    rw [hm, hn] at d1
    have hdm : d.me = r := (congrArg Co.me d3).trans hm
    have hw2 := h.turn hr a o G d2 hdm (sv := s.save.take k) (by rw [hd, d3])
    have ho : W.opened { w with c := upd w.c r s.c, cut := upd w.cut r none, saved := upd w.saved r (w.saved r ++ s.save.take k) } r = some { w with c := upd (upd w.c r s.c) r d, cut := upd w.cut r none, saved := upd w.saved r (w.saved r ++ s.save.take k) } := by
      unfold W.opened
      dsimp only
      rw [upd_same, d1]; rfl
    have he : upd (upd w.c r s.c) r d = upd w.c r d := by
      funext p; unfold upd; split <;> rfl
    rw [he] at ho
    have hw3 : WG h' { w with c := upd w.c r d, cut := upd w.cut r none, saved := upd w.saved r (w.saved r ++ s.save.take k) } := ⟨hw2.gok, hw2.n, hw2.n7, hw2.S, hw2.c, hw2.disk, hw2.l, hw2.best⟩
    obtain ⟨b, t1, t2⟩ := told_ok hw3 hr
    refine ⟨_, h', ?_, t2, rfl, rfl⟩
    dsimp only
    rw [ho, Option.bind_some, t1]
  | none =>
    dsimp only
    have hw := h.turn hr hs.le hs.only hs.gok hs.cok hs.me hs.disk
    have hn : g'.n = w.n := hs.le.n.trans h.n
    rw [if_pos (fun m hm => by
      obtain ⟨h1, h2⟩ := hs.send m hm
      exact ⟨h1.good (by rw [hn]; exact h.n7), h2, by rw [← h2]; exact h1.ne, h1.to.1, by have := h1.to.2; rw [hn] at this; exact this⟩)]
    have hw3 : WG g' { w with c := upd w.c r s.c, saved := upd w.saved r (w.saved r ++ s.save), l := s.send.foldl addL w.l } := ⟨hw.gok, hw.n, hw.n7, hw.S, hw.c, hw.disk, fun m hm => by
      rcases addL_mem hm with h | h
      · exact hw.l m h
      · exact (hs.send m h).1, hw.best⟩
    obtain ⟨b, t1, t2⟩ := told_ok hw3 hr
    exact ⟨_, g', t1, t2, rfl, rfl⟩
theorem WG.out (h : WG g w) (k : Nat) : WG g (w.out k) := ⟨h.gok, h.n, h.n7, h.S, h.c, h.disk, fun m hm => by
  rcases List.mem_append.1 hm with hm | hm
  · exact h.l m (List.mem_of_mem_take hm)
  · exact h.l m (List.mem_of_mem_drop hm), h.best⟩
theorem WG.more (h : WG g w) (x : Nat × List Int) : WG { g with S := w.ids ++ [x] } { w with ids := w.ids ++ [x] } := by
  have a : Le g { g with S := w.ids ++ [x] } := ⟨rfl, fun _ => Nat.le_refl _, fun _ _ _ => rfl, fun _ _ l hl => ⟨l, hl, List.prefix_refl _⟩, fun _ _ _ => rfl, fun y hy => by show y ∈ w.ids ++ [x]; rw [← h.S]; exact List.mem_append_left _ hy⟩
  have G : GOK { g with S := w.ids ++ [x] } := by
    refine ⟨h.gok.pos, h.gok.zero, h.gok.ini0, fun p hp v l hl => ?_, fun v L hv hL => (h.gok.elec v L hv hL).le a rfl⟩
    obtain ⟨h1, h2, h3⟩ := h.gok.acc p hp v l hl
    exact ⟨h1, h2.mono a.S, h3⟩
  refine ⟨G, h.n, h.n7, rfl, fun r hr => ?_, h.disk, fun m hm => (h.l m hm).le a, let ⟨v, hb⟩ := h.best; ⟨v, hb.le a⟩⟩
  obtain ⟨hc, hm⟩ := h.c r hr
  refine ⟨⟨hc.me, hc.n, hc.view, hc.most, hc.last, hc.cur, hc.later, hc.agr, hc.comm.le a, fun q y hy => ?_, hc.held, hc.lead, fun e he => (hc.wait e he).mono a.S, hc.waitn⟩, hm⟩
  obtain ⟨x1, x2, x3⟩ := hc.got q y hy
  exact ⟨x1, x2.le a, x3⟩
structure Act.Ok (a : Act) : Prop where
  id : a.id < 2 ^ 64
  row : ∀ v ∈ a.row, b64 v
theorem opened_act (h : WG g w) {r : Nat} (hr : r < w.n) : ∃ d, w.opened r = some { w with c := upd w.c r d } ∧ WG g { w with c := upd w.c r d } := by
  obtain ⟨hc, hm⟩ := h.c r hr
  have hcn : (w.c r).n = w.n := hc.n.trans h.n
  have hd := h.disk r hr
  obtain ⟨d, d1, d2, d3⟩ := open_ok h.gok hc (l := w.saved r) (by rw [hm, hcn]; exact hd)
  rw [hm, hcn] at d1
  refine ⟨d, by unfold W.opened; rw [d1]; rfl, ⟨h.gok, h.n, h.n7, h.S, fun p hp => ?_, fun p hp => ?_, h.l, h.best⟩⟩
  · show COK g (upd w.c r d p) ∧ (upd w.c r d p).me = p
    by_cases e : p = r
    · rw [e, upd_same]; exact ⟨d2, (congrArg Co.me d3).trans hm⟩
    · rw [upd_other _ _ e]; exact h.c p hp
  · show (Co.new p w.n).replay (w.saved p) = some (base (upd w.c r d p))
    by_cases e : p = r
    · rw [e, upd_same, d3]; exact hd
    · rw [upd_other _ _ e]; exact h.disk p hp
theorem begun_ok {n : Nat} (h1 : 0 < n) (h7 : n ≤ 7) : WG ⟨n, fun _ => 0, fun _ v => if v = 0 then some [] else none, fun _ => 0, []⟩ (W.begun n) := by
  have hz : ∀ v l, (if v = 0 then some ([] : List En) else none) = some l → v = 0 ∧ l = [] := fun v l h => by
    split at h
    · next e => exact ⟨e, (Option.some.inj h).symm⟩
    · cases h
  have G : GOK ⟨n, fun _ => 0, fun _ v => if v = 0 then some [] else none, fun _ => 0, []⟩ := by
    refine ⟨h1, fun p _ => ⟨[], rfl⟩, rfl, fun p hp v l hl => ?_, fun v L hv hL => ?_⟩
    · obtain ⟨rfl, rfl⟩ := hz v l hl
      exact ⟨Nat.le_refl _, LOK.nil, [], rfl, List.prefix_refl _, Nat.le_refl _⟩
    · obtain ⟨rfl, _⟩ := hz v L hL
      exact absurd hv (Nat.lt_irrefl _)
  refine ⟨G, rfl, h7, rfl, fun r hr => ⟨?_, rfl⟩, fun r hr => rfl, fun m hm => (by cases hm), ⟨0, Comm.nil G 0⟩⟩
  exact ⟨hr, rfl, rfl, Nat.zero_le _, Nat.le_refl _, rfl, fun v hv => if_neg (by have : 0 < v := hv; omega), Nat.le_refl _, Comm.nil G 0, fun q x hx => (by cases hx), fun q x hx => (by cases hx), fun hl => (by cases hl), fun e he => (by cases he), Nat.zero_le _⟩
end Ag
end Go.Proofs.Ytbciofnejefkiaa

namespace Go.Proofs.Ytbciofnejefkiaa
open Go Go.Am Go.Proofs

structure RFine (x : Ag.Rd) : Prop where
  kind : x.kind < 100
  view : x.view ≤ Ag.mostView
  last : x.last ≤ Ag.mostView
  agr : x.agreed ≤ 200
  list : LF x.list
theorem openB_rec {me n : Nat} (hm : me < 100) (hn : n < 100) : ∀ (l : List Ag.Rd) (c : Ag.Co), (∀ x ∈ l, RFine x) → openB me n c (l.map (recB me n)) = c.replay l
  | [], c, _ => rfl
  | x :: l, c, h => by
    have hx := h x List.mem_cons_self
    have hv := hx.view
    have hl := hx.last
    have hk := hx.kind
    have ha := hx.agr
    unfold Ag.mostView at hv hl
    obtain ⟨h1, h2⟩ := rec_back (me := me) (n := n) (x := x) (by omega) (by omega) (by omega) (by omega) (by omega) (by omega) hx.list
    rw [List.map_cons, openB, Ag.Co.replay]
    by_cases hok : x.ok
    · rw [if_pos (h2.2 hok), if_pos hok, h1]
      cases hc : c.apply x with
      | none => rfl
      | some d =>
        rw [Option.bind_some, Option.bind_some]
        exact openB_rec hm hn l d fun y hy => h y (List.mem_cons_of_mem _ hy)
    · rw [if_neg (fun e => hok (h2.1 e)), if_neg hok]
def RS' (s : Ag.St) : Prop := ∀ x ∈ s.save, RFine x
theorem RS'.nil (c : Ag.Co) : RS' ⟨c, [], []⟩ := fun x h => by cases h
theorem rs_put {s : Ag.St} (h : RS' s) {k v : Nat} {l : List En} (hk : k < 100) (hv : v ≤ Ag.mostView) (hl : LF l) : RS' (s.put k v l) := fun x hx => by
  rcases List.mem_append.1 hx with hx | hx
  · exact h x hx
  · rw [List.mem_singleton.1 hx]; exact ⟨hk, hv, Nat.zero_le _, Nat.zero_le _, hl⟩
theorem rs_out {s : Ag.St} (h : RS' s) (m : Mg) : RS' (s.out m) := fun x hx => h x (by rw [Ag.out_save] at hx; exact hx)
theorem rs_lay {s : Ag.St} (h : RS' s) : RS' s.lay := fun x hx => h x (by rw [(Ag.lay_c s).2] at hx; exact hx)
theorem rs_tell {s : Ag.St} (h : RS' s) (m : Mg) : RS' (s.tell m) := fun x hx => h x (by rw [(Ag.tell_c s m).2] at hx; exact hx)
theorem rs_take {s : Ag.St} (h : RS' s) {v : Nat} (hv : v ≤ Ag.mostView) {l : List En} (hl : LF l) : RS' (s.take v l) := by
  unfold Ag.St.take
  dsimp only
  intro x hx
  replace hx : x ∈ (if s.c.last = v ∧ Ag.begins l s.c.list = true then (if s.c.list.length < l.length then s.put 3 0 (l.drop s.c.list.length) else s) else s.put 2 v l).save := hx
  split at hx
  · split at hx
    · exact rs_put h (by omega) (Nat.zero_le _) (hl.drop _) x hx
    · exact h x hx
  · exact rs_put h (by omega) hv hl x hx
theorem rs_grow {s : Ag.St} (h : RS' s) (hf : CFine s.c) : RS' s.grow := by
  obtain ⟨g1, g2⟩ := grown_LF hf.list hf.wait.ok
  unfold Ag.St.grow; dsimp only
  refine rs_lay (s := ⟨_, _, _⟩) ?_
  split
  · exact rs_take (s := { s with c := { s.c with wait := [] } }) h hf.view g1
  · exact h
theorem rs_won {s : Ag.St} (h : RS' s) (hf : CFine s.c) : RS' s.won := by
  unfold Ag.St.won; dsimp only
  split
  · exact h
  · obtain ⟨b1, b2, b3⟩ := bestK_LF hf s.c.n
    have hk : Sm 1 0 s (s.take s.c.view s.c.best.list) := take_sm hf hf.view b1 b3
    exact rs_grow (s := { s.take s.c.view s.c.best.list with c := { (s.take s.c.view s.c.best.list).c with lead := true, got := fun _ => none } }) (rs_take h hf.view b1) hk.c.leads
theorem rs_count {s : Ag.St} (h : RS' s) (hf : CFine s.c) {q : Nat} {v : Ag.Vt} (hq : q < s.c.n) (hv : LF v.list) (hv2 : v.last ≤ Ag.mostView) : RS' (s.count q v) := by
  unfold Ag.St.count
  split
  · exact h
  · exact rs_won (s := { s with c := { s.c with got := Ag.upd s.c.got q (some v) } }) h (hf.got1 hq hv hv2)
theorem rs_vote {s : Ag.St} (h : RS' s) (hf : CFine s.c) : RS' s.vote := by
  unfold Ag.St.vote; dsimp only
  split
  · exact rs_count h hf hf.me hf.list hf.last
  · exact rs_out h _
theorem LF.nil : LF [] := ⟨by simp, by simp⟩
theorem rs_promise {s : Ag.St} (h : RS' s) {v : Nat} (hv : v ≤ Ag.mostView) : RS' (s.promise v) := by
  unfold Ag.St.promise
  exact rs_put (s := ⟨_, _, _⟩) h (by omega) hv LF.nil
theorem rs_begin {s : Ag.St} (h : RS' s) (hf : CFine s.c) : RS' s.begin := by
  unfold Ag.St.begin
  split
  · next hv =>
    have k1 := promise_sm hf (v := s.c.view + 1) (by omega)
    have k2 := k1.trans (tell_sm k1.c (Ag.msg0 2 0))
    exact rs_vote (rs_tell (rs_promise h (by omega)) _) k2.c
  · exact h
theorem rs_want {s : Ag.St} (h : RS' s) (hf : CFine s.c) {e : En} (he : e.Ok) : RS' (s.want e) := by
  obtain ⟨h1, h2, h3⟩ := hf.wanted he
  unfold Ag.St.want; dsimp only
  split
  · exact rs_grow (s := { s with c := (s.c.wanted e).1 }) h h1
  · exact h
theorem rs_submit {c : Ag.Co} (hf : CFine c) {id : Nat} {row : List Int} (he : (⟨id, 0, row⟩ : En).Ok) : RS' (c.submit id row) := by
  have key : ∀ s : Ag.St, RS' s → CFine s.c → RS' (let s2 : Ag.St := { s with c := (s.c.wanted ⟨id, 0, row⟩).1 }; if (s.c.wanted ⟨id, 0, row⟩).2 then s2.grow else if Ag.may ⟨id, 0, row⟩ = true ∧ s2.c.lead = false ∧ Ag.hasId s2.c.list id = false then s2.out { Ag.msg0 1 ((s2.c.view % s2.c.n : Nat) : Int) with ents := [⟨id, 0, row⟩] } else s2) := by
    intro s h k
    obtain ⟨h1, h2, h3⟩ := k.wanted he
    dsimp only
    split
    · exact rs_grow (s := { s with c := (s.c.wanted ⟨id, 0, row⟩).1 }) h h1
    · split
      · exact rs_out (s := { s with c := (s.c.wanted ⟨id, 0, row⟩).1 }) h _
      · exact h
  have hs1 : Sm 3 14 ⟨c, [], []⟩ (if c.n = 1 ∧ c.lead = false then Ag.St.begin ⟨c, [], []⟩ else ⟨c, [], []⟩) := by
    split
    · exact begin_sm (s := ⟨c, [], []⟩) hf
    · exact ⟨hf, rfl, rfl, Nat.zero_le _, Nat.zero_le _⟩
  refine key _ ?_ hs1.c
  split
  · exact rs_begin (RS'.nil c) hf
  · exact RS'.nil c
theorem rs_tick {c : Ag.Co} (hf : CFine c) (hq : c.quiet < 1000000000) : RS' c.tick := by
  unfold Ag.Co.tick
  dsimp only
  have hfq : CFine { c with quiet := c.quiet + 1 } := hf.calm hq
  split
  · exact rs_grow (s := ⟨c, [], []⟩) (RS'.nil c) hf
  · split
    · exact rs_begin (s := ⟨{ c with quiet := c.quiet + 1 }, [], []⟩) (RS'.nil _) hfq
    · split
      · exact rs_vote (s := ⟨{ c with quiet := c.quiet + 1 }, [], []⟩) (RS'.nil _) hfq
      · exact RS'.nil _
end Go.Proofs.Ytbciofnejefkiaa

namespace Go.Proofs.Ytbciofnejefkiaa
open Go Go.Am Go.Proofs

structure Gr (c d : Ag.Co) : Prop where
  agr : c.agreed ≤ d.agreed
  quiet : d.quiet ≤ c.quiet
theorem Gr.refl (c : Ag.Co) : Gr c c := ⟨Nat.le_refl _, Nat.le_refl _⟩
theorem Gr.trans {a b c : Ag.Co} (h : Gr a b) (k : Gr b c) : Gr a c := ⟨Nat.le_trans h.agr k.agr, Nat.le_trans k.quiet h.quiet⟩
theorem gr_settle (c : Ag.Co) : Gr c c.settle := by
  unfold Ag.Co.settle; dsimp only
  split
  · exact ⟨Nat.le_refl _, Nat.le_refl _⟩
  · exact ⟨Nat.le_max_left _ _, Nat.le_refl _⟩
theorem gr_lay (s : Ag.St) : Gr s.c s.lay.c := by rw [(Ag.lay_c s).1]; exact Gr.refl _
theorem gr_tell (s : Ag.St) (m : Mg) : Gr s.c (s.tell m).c := by rw [(Ag.tell_c s m).1]; exact Gr.refl _
theorem gr_out (s : Ag.St) (m : Mg) : Gr s.c (s.out m).c := by rw [Ag.out_c]; exact Gr.refl _
theorem gr_take (s : Ag.St) (v : Nat) (l : List En) : Gr s.c (s.take v l).c := by rw [Ag.take_c]; exact ⟨Nat.le_refl _, Nat.le_refl _⟩
theorem gr_grow (s : Ag.St) : Gr s.c s.grow.c := by
  unfold Ag.St.grow; dsimp only
  have key : ∀ t : Ag.St, Gr s.c t.c → Gr s.c (Ag.St.lay { t with c := t.c.settle }).c := fun t h => (h.trans (gr_settle t.c)).trans (gr_lay { t with c := t.c.settle })
  refine key _ ?_
  split
  · have := gr_take { s with c := { s.c with wait := [] } } s.c.view (Ag.grown s.c.list s.c.wait)
    exact ⟨this.agr, this.quiet⟩
  · exact ⟨Nat.le_refl _, Nat.le_refl _⟩
theorem gr_won (s : Ag.St) : Gr s.c s.won.c := by
  unfold Ag.St.won; dsimp only
  split
  · exact Gr.refl _
  · refine Gr.trans (b := { (s.take s.c.view s.c.best.list).c with lead := true, got := fun _ => none }) ?_ (gr_grow { s.take s.c.view s.c.best.list with c := { (s.take s.c.view s.c.best.list).c with lead := true, got := fun _ => none } })
    have := gr_take s s.c.view s.c.best.list
    exact ⟨this.agr, this.quiet⟩
theorem gr_count (s : Ag.St) (q : Nat) (v : Ag.Vt) : Gr s.c (s.count q v).c := by
  unfold Ag.St.count
  split
  · exact Gr.refl _
  · have := gr_won { s with c := { s.c with got := Ag.upd s.c.got q (some v) } }
    exact ⟨this.agr, this.quiet⟩
theorem gr_vote (s : Ag.St) : Gr s.c s.vote.c := by
  unfold Ag.St.vote; dsimp only
  split
  · exact gr_count _ _ _
  · exact gr_out _ _
theorem gr_promise (s : Ag.St) (v : Nat) : Gr s.c (s.promise v).c := ⟨Nat.le_refl _, Nat.zero_le _⟩
theorem gr_begin (s : Ag.St) : Gr s.c s.begin.c := by
  unfold Ag.St.begin
  split
  · exact ((gr_promise s _).trans (gr_tell _ _)).trans (gr_vote _)
  · exact Gr.refl _
theorem gr_wanted (c : Ag.Co) (e : En) : Gr c (c.wanted e).1 := by
  unfold Ag.Co.wanted
  split
  · exact Gr.refl _
  · exact ⟨Nat.le_refl _, Nat.le_refl _⟩
theorem gr_want (s : Ag.St) (e : En) : Gr s.c (s.want e).c := by
  unfold Ag.St.want; dsimp only
  split
  · exact (gr_wanted _ _).trans (gr_grow { s with c := (s.c.wanted e).1 })
  · exact gr_wanted _ _
theorem gr_wants : ∀ (l : List En) (s : Ag.St), Gr s.c (l.foldl Ag.St.want s).c
  | [], s => Gr.refl _
  | e :: l, s => (gr_want s e).trans (gr_wants l _)
theorem gr_submit (c : Ag.Co) (id : Nat) (row : List Int) : Gr c (c.submit id row).c := by
  have key : ∀ s : Ag.St, Gr c s.c → Gr c (let s2 : Ag.St := { s with c := (s.c.wanted ⟨id, 0, row⟩).1 }; if (s.c.wanted ⟨id, 0, row⟩).2 then s2.grow else if Ag.may ⟨id, 0, row⟩ = true ∧ s2.c.lead = false ∧ Ag.hasId s2.c.list id = false then s2.out { Ag.msg0 1 ((s2.c.view % s2.c.n : Nat) : Int) with ents := [⟨id, 0, row⟩] } else s2).c := by
    intro s h
    have h2 : Gr c (s.c.wanted ⟨id, 0, row⟩).1 := h.trans (gr_wanted _ _)
    dsimp only
    split
    · exact h2.trans (gr_grow { s with c := (s.c.wanted ⟨id, 0, row⟩).1 })
    · split
      · exact h2.trans (gr_out { s with c := (s.c.wanted ⟨id, 0, row⟩).1 } _)
      · exact h2
  refine key _ ?_
  split
  · exact gr_begin ⟨c, [], []⟩
  · exact Gr.refl _
theorem gr_tick (c : Ag.Co) : c.agreed ≤ c.tick.c.agreed ∧ c.tick.c.quiet ≤ c.quiet + 1 := by
  unfold Ag.Co.tick
  dsimp only
  split
  · have := gr_grow ⟨c, [], []⟩; exact ⟨this.agr, Nat.le_succ_of_le this.quiet⟩
  · split
    · have := gr_begin ⟨{ c with quiet := c.quiet + 1 }, [], []⟩; exact ⟨this.agr, this.quiet⟩
    · split
      · have := gr_vote ⟨{ c with quiet := c.quiet + 1 }, [], []⟩; exact ⟨this.agr, this.quiet⟩
      · exact ⟨Nat.le_refl _, Nat.le_refl _⟩
theorem gr_fin (s : Ag.St) (m : Mg) : Gr s.c (s.fin m).c := by
  unfold Ag.St.fin
  split
  · exact ⟨Nat.le_max_left _ _, Nat.le_refl _⟩
  · exact Gr.refl _
theorem gr_hear (s : Ag.St) (m : Mg) : Gr s.c (s.hear m).c := by
  unfold Ag.St.hear
  have h0 : Gr s.c { s.c with quiet := 0 } := ⟨Nat.le_refl _, Nat.zero_le _⟩
  refine h0.trans ?_
  show Gr ({ s with c := { s.c with quiet := 0 } } : Ag.St).c _
  generalize ({ s with c := { s.c with quiet := 0 } } : Ag.St) = t
  unfold Ag.St.heard
  split
  · split
    · exact Gr.refl _
    · unfold Ag.St.hold
      refine Gr.trans ?_ (gr_fin _ _)
      refine Gr.trans ?_ (gr_out _ _)
      split
      · exact gr_take _ _ _
      · exact Gr.refl _
  · exact gr_fin _ _
theorem gr_get2 (s : Ag.St) (m : Mg) : Gr s.c (get2 s m).c := by
  unfold get2
  split
  · split
    · exact gr_count _ _ _
    · exact Gr.refl _
  split
  · split
    · have := gr_settle { s.c with held := Ag.upd s.c.held m.from_.toNat (some (max ((s.c.held m.from_.toNat).getD 0) m.op)) }
      exact ⟨this.agr, this.quiet⟩
    · exact Gr.refl _
  split
  · split
    · exact gr_hear _ _
    · exact Gr.refl _
  · exact Gr.refl _
theorem gr_get1 (c : Ag.Co) (m : Mg) : Gr c (get1 c m).c := by
  unfold get1
  split
  · exact (gr_promise ⟨c, [], []⟩ m.view).trans (gr_vote _)
  · exact Gr.refl _
theorem gr_get (c : Ag.Co) (m : Mg) : Gr c (c.get m).c := by
  by_cases ho : c.odd m
  · rw [get_odd c m ho]; exact Gr.refl _
  by_cases hk : m.kind = 1
  · rw [get_want c m ho hk]
    exact gr_wants _ ⟨c, [], []⟩
  by_cases hv : m.view < (get1 c m).c.view
  · rw [get_past c m ho hk hv]; exact gr_get1 c m
  · rw [get_now c m ho hk hv]; exact (gr_get1 c m).trans (gr_get2 _ _)
theorem fin_sm {s : Ag.St} (h : CFine s.c) (m : Mg) : Sm 0 0 s (s.fin m) := by
  unfold Ag.St.fin
  split
  · exact ⟨⟨h.me, h.n, h.view, h.last, h.list, (by have := h.agr; show max s.c.agreed (min m.commit s.c.list.length) ≤ s.c.list.length; omega), h.wait, h.quiet, h.got, h.held⟩, rfl, rfl, Nat.le_refl _, Nat.le_refl _⟩
  · exact ⟨h, rfl, rfl, Nat.le_refl _, Nat.le_refl _⟩
theorem begins_len {l w : List En} (h : Ag.begins l w = true) : w.length ≤ l.length := by
  unfold Ag.begins at h
  rw [Bool.and_eq_true, decide_eq_true_eq] at h
  exact h.1
theorem heard_sm {t : Ag.St} (hc : CFine t.c) {m : Mg} (hL : LF m.ents) (hv : m.view ≤ Ag.mostView) : Sm 1 1 t (t.heard m) := by
  unfold Ag.St.heard
  split
  · split
    · exact ⟨hc, rfl, rfl, by omega, by omega⟩
    · next hb =>
      have hb2 := begins_len (by simpa using hb)
      rw [List.length_take] at hb2
      have ha := hc.agr
      unfold Ag.St.hold
      have k1 : Sm 1 0 t (if t.c.last < m.view ∨ t.c.list.length < m.ents.length then t.take m.view m.ents else t) := by
        split
        · exact take_sm hc hv hL (by omega)
        · exact ⟨hc, rfl, rfl, by omega, by omega⟩
      exact ((k1.trans (out_sm k1.c _)).trans (fin_sm (out_sm k1.c _).c m)).more (by omega) (by omega)
  · exact (fin_sm hc m).more (by omega) (by omega)
theorem hear_sm {s : Ag.St} (h : CFine s.c) {m : Mg} (hL : LF m.ents) (hv : m.view ≤ Ag.mostView) : Sm 1 1 s (s.hear m) := by
  have h0 : CFine { s.c with quiet := 0 } := h.calm (Nat.zero_le _)
  have k0 : Sm 0 0 s { s with c := { s.c with quiet := 0 } } := mem_sm (s := s) h0 rfl rfl
  exact (k0.trans (heard_sm (t := { s with c := { s.c with quiet := 0 } }) h0 hL hv)).more (by omega) (by omega)
theorem rs_fin {s : Ag.St} (h : RS' s) (m : Mg) : RS' (s.fin m) := by
  unfold Ag.St.fin
  split
  · exact h
  · exact h
theorem rs_hear {s : Ag.St} (h : RS' s) (hf : CFine s.c) {m : Mg} (hL : LF m.ents) (hv : m.view ≤ Ag.mostView) : RS' (s.hear m) := by
  unfold Ag.St.hear
  have hr : RS' { s with c := { s.c with quiet := 0 } } := h
  generalize ({ s with c := { s.c with quiet := 0 } } : Ag.St) = t at *
  unfold Ag.St.heard
  split
  · split
    · exact hr
    · unfold Ag.St.hold
      refine rs_fin (rs_out ?_ _) m
      split
      · exact rs_take hr hv hL
      · exact hr
  · exact rs_fin hr m
theorem get2_sm {s : Ag.St} (h : CFine s.c) {m : Mg} (hm : m.Ok) (hL : LF m.ents) (hv : m.view ≤ Ag.mostView) (hf : m.from_.toNat < s.c.n) : Sm 2 7 s (get2 s m) := by
  have h0 : Sm 2 7 s s := ⟨h, rfl, rfl, by omega, by omega⟩
  unfold get2
  split
  · split
    · next hk => exact count_sm h hf hL (by show m.last ≤ _; have := hk.2; omega)
    · exact h0
  split
  · split
    · have h1 : CFine { s.c with held := Ag.upd s.c.held m.from_.toNat (some (max ((s.c.held m.from_.toNat).getD 0) m.op)) } := h.hold hf (by
        have := hm.op
        cases hh : s.c.held m.from_.toNat with
        | none => simp only [Option.getD_none]; omega
        | some x => have := (h.held _ _ hh).2; simp only [Option.getD_some]; omega)
      exact (mem_sm (s := s) h1.settle (settle_same2 _).1 (settle_same2 _).2).more (by omega) (by omega)
    · exact h0
  split
  · split
    · exact (hear_sm h hL hv).more (by omega) (by omega)
    · exact h0
  · exact h0
theorem rs_get2 {s : Ag.St} (hr : RS' s) (h : CFine s.c) {m : Mg} (hL : LF m.ents) (hv : m.view ≤ Ag.mostView) (hf : m.from_.toNat < s.c.n) : RS' (get2 s m) := by
  unfold get2
  split
  · split
    · next hk => exact rs_count hr h hf hL (by show m.last ≤ _; have := hk.2; omega)
    · exact hr
  split
  · split
    · exact hr
    · exact hr
  split
  · split
    · exact rs_hear hr h hL hv
    · exact hr
  · exact hr
theorem rs_wants : ∀ (l : List En) {s : Ag.St}, RS' s → CFine s.c → (∀ e ∈ l, e.Ok) → RS' (l.foldl Ag.St.want s)
  | [], s, h, _, _ => h
  | e :: l, s, h, hf, he => rs_wants l (rs_want h hf (he e List.mem_cons_self)) (want_sm hf (he e List.mem_cons_self)).c fun x hx => he x (List.mem_cons_of_mem _ hx)
theorem get_fine {c : Ag.Co} (hf : CFine c) {m : Mg} (hm : m.Ok) : Sm 200 1400 ⟨c, [], []⟩ (c.get m) ∧ RS' (c.get m) := by
  by_cases ho : c.odd m
  · rw [get_odd c m ho]; exact ⟨⟨hf, rfl, rfl, by omega, by omega⟩, RS'.nil c⟩
  have ho2 := ho
  unfold Ag.Co.odd at ho2
  simp only [not_or, Classical.not_not] at ho2
  obtain ⟨o1, o2, o3, o4, o5, o6⟩ := ho2
  have hL := listed_LF hm (by simpa using o6)
  have hfr : m.from_.toNat < c.n := by have := o1.1.2.1; omega
  by_cases hk : m.kind = 1
  · rw [get_want c m ho hk]
    have h200 := hL.len
    refine ⟨(wantK_sm (s := ⟨c, [], []⟩) hf (fun e he => (hL.ok e he).1) m.ents.length (Nat.le_refl _)).more h200 (by omega), ?_⟩
    unfold wantK
    rw [List.take_length]
    exact rs_wants _ (RS'.nil c) hf fun e he => (hL.ok e he).1
  have h1 := get1_sm hf (m := m) (by omega)
  have r1 : RS' (get1 c m) := by
    unfold get1
    split
    · exact rs_vote (rs_promise (RS'.nil c) (by omega)) (promise_sm (s := ⟨c, [], []⟩) hf (by omega)).c
    · exact RS'.nil c
  by_cases hv : m.view < (get1 c m).c.view
  · rw [get_past c m ho hk hv]; exact ⟨h1.more (by omega) (by omega), r1⟩
  · rw [get_now c m ho hk hv]
    have hn : (get1 c m).c.n = c.n := h1.n
    exact ⟨(h1.trans (get2_sm h1.c hm hL (by omega) (by rw [hn]; exact hfr))).more (by omega) (by omega), rs_get2 r1 h1.c hL (by omega) (by rw [hn]; exact hfr)⟩
theorem tick_fine {c : Ag.Co} (hf : CFine c) (hq : c.quiet < 1000000000) : Sm 200 1400 ⟨c, [], []⟩ c.tick ∧ RS' c.tick := by
  refine ⟨?_, rs_tick hf hq⟩
  unfold Ag.Co.tick
  dsimp only
  have hfq : CFine { c with quiet := c.quiet + 1 } := hf.calm hq
  have h0 : Sm 0 0 ⟨c, [], []⟩ ⟨{ c with quiet := c.quiet + 1 }, [], []⟩ := mem_sm (s := ⟨c, [], []⟩) hfq rfl rfl
  split
  · exact (grow_sm (s := ⟨c, [], []⟩) hf).more (by omega) (by omega)
  · split
    · exact (h0.trans (begin_sm (s := ⟨{ c with quiet := c.quiet + 1 }, [], []⟩) hfq)).more (by omega) (by omega)
    · split
      · exact (h0.trans (vote_sm (s := ⟨{ c with quiet := c.quiet + 1 }, [], []⟩) hfq)).more (by omega) (by omega)
      · exact h0.more (by omega) (by omega)
theorem submit_fine {c : Ag.Co} (hf : CFine c) {id : Nat} {row : List Int} (he : (⟨id, 0, row⟩ : En).Ok) : Sm 200 1400 ⟨c, [], []⟩ (c.submit id row) ∧ RS' (c.submit id row) := by
  refine ⟨?_, rs_submit hf he⟩
  have key : ∀ s : Ag.St, Sm 3 14 ⟨c, [], []⟩ s → Sm 200 1400 ⟨c, [], []⟩ (let s2 : Ag.St := { s with c := (s.c.wanted ⟨id, 0, row⟩).1 }; if (s.c.wanted ⟨id, 0, row⟩).2 then s2.grow else if Ag.may ⟨id, 0, row⟩ = true ∧ s2.c.lead = false ∧ Ag.hasId s2.c.list id = false then s2.out { Ag.msg0 1 ((s2.c.view % s2.c.n : Nat) : Int) with ents := [⟨id, 0, row⟩] } else s2) := by
    intro s k
    obtain ⟨h1, h2, h3⟩ := k.c.wanted he
    have k2 := k.trans (mem_sm (s := s) h1 h2 h3)
    dsimp only
    split
    · exact (k2.trans (grow_sm (s := { s with c := (s.c.wanted ⟨id, 0, row⟩).1 }) h1)).more (by omega) (by omega)
    · split
      · exact (k2.trans (out_sm (s := { s with c := (s.c.wanted ⟨id, 0, row⟩).1 }) h1 _)).more (by omega) (by omega)
      · exact k2.more (by omega) (by omega)
  refine key _ ?_
  split
  · exact begin_sm (s := ⟨c, [], []⟩) hf
  · exact ⟨hf, rfl, rfl, Nat.zero_le _, Nat.zero_le _⟩
end Go.Proofs.Ytbciofnejefkiaa

namespace Go.Proofs.Ytbciofnejefkiaa
open Go Go.Am Go.Proofs

def s7a : Ag.St := (Ag.Co.new 0 1).submit 7 [1]
theorem e7ok : (⟨7, 0, [1]⟩ : En).Ok := ⟨by decide, by decide, fun v hv => by rw [show v = 1 from List.mem_singleton.1 hv]; decide⟩
theorem s7_fine : CFine s7a.c ∧ RS' s7a ∧ s7a.c.me = 0 ∧ s7a.c.n = 1 ∧ s7a.save.length ≤ 200 := by
  obtain ⟨h1, h2⟩ := submit_fine (CFine.new (me := 0) (n := 1) (by omega) (by omega)) e7ok
  exact ⟨h1.c, h2, h1.me, h1.n, by have := h1.sv; simp only [List.length_nil] at this; exact Nat.le_trans this (by omega)⟩
theorem s7_list : s7a.c.list.take s7a.c.agreed = [⟨7, 0, [1]⟩] := by rfl
theorem s7_replay : ((Ag.Co.new 0 1).replay s7a.save).isSome = true := by decide +kernel
theorem recB_small {me n : Nat} {x : Ag.Rd} (h : RFine x) : (recB me n x).length ≤ 1000000 := by
  have h1 := encEs_small h.list
  have h2 := encUs_len [me, n, x.kind, x.view, x.last, x.agreed, x.list.length]
  unfold recB
  rw [List.length_append]
  simp only [List.length_cons, List.length_nil] at h2
  omega
theorem CAt.ext {H H' : AHeap} {F : Ob} {c : Ag.Co} (h : CAt H F c) (fr : ∀ p y, H p = some y → H' p = some y) : CAt H' F c := by
  obtain ⟨⟨off, xs, hco, hw, hx1, hx2⟩, ⟨eg, hg, hg2⟩, ⟨eh, hh, hh2⟩⟩ := h
  exact ⟨⟨off, xs, fr _ _ hco, fr _ _ hw, hx1, hx2⟩, ⟨eg, fr _ _ hg, hg2⟩, ⟨eh, fr _ _ hh, hh2⟩⟩
theorem awake_calls (H : AHeap) : ACalls Try.prog 14 [] H fun r H' => r = .raw (.bool true) ∧ ∀ p y, H p = some y → H' p = some y := by
  obtain ⟨k1, k2, k3, k4, k5⟩ := s7_fine
  have k6 := s7_list
  obtain ⟨d, hd⟩ := Option.isSome_iff_exists.1 s7_replay
  have ho : openB 0 1 (Ag.Co.new 0 1) (s7a.save.map (recB 0 1)) = some d := by rw [openB_rec (by omega) (by omega) _ _ k2]; exact hd
  have hO := fun H => Open_calls H 0 1 (s7a.save.map (recB 0 1)) (by omega) (by omega) (by omega) (by rw [List.length_map]; omega) (fun b hb => by
    obtain ⟨x, hx, rfl⟩ := List.mem_map.1 hb
    exact recB_small (k2 x hx))
  rw [ho] at hO
  have hS := fun H F h nd => Submit_calls H F (Ag.Co.new 0 1) 7 [1] h nd (CFine.new (by omega) (by omega)) e7ok (by simp)
  have hs7 : (Ag.Co.new 0 1).submit 7 [1] = s7a := rfl
  rw [hs7] at hS
  clear hs7 hd ho
  have hsa : stepA s7a = .agg [.sls (s7a.save.map (recB 0 1)).length ((s7a.save.map (recB 0 1)).map .bys), sendA s7a] := by
    unfold stepA saveA
    rw [k3, k4, List.length_map, List.map_map]; rfl
  rw [hsa] at hS
  have hC := fun H F h nd => CopyP_calls H F s7a.c h nd k1
  have hL := fun H F h => Committed_calls H F s7a.c h k1
  rw [k6] at hL
  clear hsa k6
  generalize s7a.save.map (recB 0 1) = sv at *
  unfold sendA at *
  generalize s7a.send.length = sk at *
  generalize s7a.send.flatMap Mg.cells = sn at *
  generalize s7a.c = c7 at *
  refine acalls_of_aw Try.func14 rfl (by decide) ?_
  (first | focus (refine yy17 ?_; refine yy1 ?_; (refine zc auto_wl (New_calls _ 0 1 (by omega) (by omega) (by omega)) ?_; rintro r H' ⟨F, rfl, a1, a2, a3, a4⟩); refine yy88 ?_; refine yy105 ?_; refine yy5 ?_; refine yy11 ?_; refine yy85 ?_; refine yy2 ?_; refine zg2 rfl rfl rfl (fun hc => ?_) (fun hc => ?_); exact absurd hc auto_no; refine yy49 ?_; refine awl_s rfl (s_ptr_eqnil rfl rfl) ?_; refine yy65 ?_; refine yy96 ?_; rotate_left) | fail)
  have hS1 := hS _ F a1 a2
  (first | focus (refine yy16 ?_; refine yy111 ?_; (refine zc auto_wl (hS1) ?_; rintro r H' ⟨rfl, F2, b1, b2⟩); refine awl_alloc rfl rfl rfl (fun oN hoN => ?_); refine yy102 ?_; refine yy3 ?_; rotate_left) | fail)
  have o2 := b2.o
  have hL1 := hL _ F2 b1
  rw [o2] at hL1
  (first | focus (refine yy16 ?_; (refine zc auto_wl (hL1) ?_; rintro r H' ⟨rfl, rfl⟩); refine awl_s rfl (s_assign (v := .sls _ _) rfl) ?_; refine yy3 ?_; rotate_left) | fail)
  have hO1 := hO H'
  (first | focus (refine yy1 ?_; refine yy43 ?_; (refine zc auto_wl (hO1) ?_; rintro r H' ⟨⟨F3, rfl, c1, c2, c3⟩, c4⟩); refine yy88 ?_; refine yy105 ?_; refine yy5 ?_; rotate_left) | fail)
  have b3 := b1.ext c4
  have hC1 := hC _ F2 b3 b2.nd
  rw [o2] at hC1
  (first | focus (refine yy1 ?_; refine yy62 ?_; refine yy57 ?_; refine yy2 ?_; refine zg1 rfl rfl rfl (fun hc => ?_) (fun hc => ?_); refine yy56 ?_; refine yy6 ?_; refine yy93 ?_; refine yy6 ?_; refine yy108 ?_; refine yy6 ?_; refine yy72 ?_; refine yy6 ?_; refine yy57 ?_; refine yy55 ?_; refine yy2 ?_; refine zg1 rfl rfl rfl (fun hc => ?_) (fun hc => ?_); refine yy56 ?_; refine yy6 ?_; refine yy93 ?_; refine yy6 ?_; refine yy108 ?_; refine yy6 ?_; refine yy72 ?_; refine yy6 ?_; refine yy54 ?_; refine yy6 ?_; refine yy57 ?_; refine yy55 ?_; refine yy2 ?_; refine zg1 rfl rfl rfl (fun hc => ?_) (fun hc => ?_); refine yy56 ?_; refine yy6 ?_; refine yy93 ?_; refine yy6 ?_; refine yy108 ?_; refine yy6 ?_; refine yy72 ?_; refine yy6 ?_; refine yy93 ?_; refine yy6 ?_; refine yy72 ?_; refine yy6 ?_; refine yy57 ?_; refine yy55 ?_; refine yy2 ?_; refine zg1 rfl rfl rfl (fun hc => ?_) (fun hc => ?_); refine yy26 ?_; refine yy57 ?_; refine yy55 ?_; refine yy2 ?_; refine zg1 rfl rfl rfl (fun hc => ?_) (fun hc => ?_); refine yy49 ?_; refine awl_s rfl (s_ptr_nenil rfl rfl) ?_; refine yy55 ?_; refine yy26 ?_; refine yy49 ?_; (refine zc auto_wl (hC1) ?_; rintro r H' ⟨F4, rfl, d1, d2, d3, d4⟩); refine yy6 ?_; refine awl_s rfl (s_ptr_nenil rfl rfl) ?_; refine yy55 ?_; refine yy8 ?_; rotate_left; exact absurd hc auto_no; exact absurd hc auto_no; exact absurd hc auto_no; exact absurd hc auto_no; exact absurd hc auto_no) | fail)
  exact ⟨.inl rfl, _, _, _, Ent.refl _ _, ret1 rfl rfl, rfl, fun p y hp => d4 p y (c4 p y (b2.fr p y (a4 p y hp) (fun e => by rw [a3 p e] at hp; cases hp)))⟩
end Go.Proofs.Ytbciofnejefkiaa

namespace Go.Proofs.Ytbciofnejefkiaa
open Go Go.Am Go.Proofs

theorem CFine.full {c : Ag.Co} (h : CFine c) : CFine { c with agreed := c.list.length } := ⟨h.me, h.n, h.view, h.last, h.list, Nat.le_refl _, h.wait, h.quiet, h.got, h.held⟩
end Go.Proofs.Ytbciofnejefkiaa

namespace Go.Proofs.Ytbciofnejefkiaa
open Go Go.Am Go.Proofs

theorem CAt.live {H : AHeap} {F : Ob} {c : Ag.Co} (h : CAt H F c) : ∀ p ∈ F.c, ∃ y, H p = some y := by
  obtain ⟨⟨off, xs, hco, hw, hx1, hx2⟩, ⟨eg, hg, hg2⟩, ⟨eh, hh, hh2⟩⟩ := h
  intro p hp
  simp only [Ob.c, List.mem_cons, List.not_mem_nil, or_false] at hp
  rcases hp with e | e | e | e <;> rw [e] <;> exact ⟨_, by assumption⟩
theorem CAt.keep {H H' : AHeap} {F G G' : Ob} {c : Ag.Co} (h : CAt H F c) (t : TurnK H G G' H') (hd : ∀ p ∈ F.c, p ∉ G.c) : CAt H' F c := by
  obtain ⟨⟨off, xs, hco, hw, hx1, hx2⟩, ⟨eg, hg, hg2⟩, ⟨eh, hh, hh2⟩⟩ := h
  exact ⟨⟨off, xs, t.fr _ _ hco (hd _ (by simp [Ob.c])), t.fr _ _ hw (hd _ (by simp [Ob.c])), hx1, hx2⟩, ⟨eg, t.fr _ _ hg (hd _ (by simp [Ob.c])), hg2⟩, ⟨eh, t.fr _ _ hh (hd _ (by simp [Ob.c])), hh2⟩⟩
end Go.Proofs.Ytbciofnejefkiaa

namespace Go.Proofs.Ytbciofnejefkiaa
open Go Go.Am Go.Proofs

structure Wo where
  w : Nat
  c : Nat
  s : Nat
  k : Nat
  l : Nat
  i : Nat
  r : Nat
  b : Nat
def Wo.l' (O : Wo) : List Nat := [O.w, O.c, O.s, O.k, O.l, O.i, O.r, O.b]
def cutA (x : Option Nat) : AV := mI (match x with | some k => (k : Int) | none => -1)
def svA (r n : Nat) (l : List Ag.Rd) : AV := .sls l.length (l.map fun x => .bys (recB r n x))
def rowA (x : List Int) : AV := .sls x.length (x.map mI)
def worldC (O : Wo) (w : Ag.W) : List AV := [mI w.n, .vw O.c 1 0 w.n, .vw O.s 1 0 w.n, .vw O.k 1 0 w.n, .vw O.l 9 0 w.l.length, .vw O.i 1 0 w.ids.length, .vw O.r 1 0 w.ids.length, .vw O.b 3 0 w.best.length]
structure WAt (H : AHeap) (O : Wo) (F : Nat → Ob) (w : Ag.W) : Prop where
  aw : H O.w = some (.cel (worldC O w))
  ac : H O.c = some (.cel ((List.range w.n).map fun r => .ptr (F r).o 0))
  asv : H O.s = some (.cel ((List.range w.n).map fun r => svA r w.n (w.saved r)))
  ak : H O.k = some (.cel ((List.range w.n).map fun r => cutA (w.cut r)))
  al : H O.l = some (.cel (w.l.flatMap Mg.cells))
  ai : H O.i = some (.cel (w.ids.map fun x => uI x.1))
  ar : H O.r = some (.cel (w.ids.map fun x => rowA x.2))
  ab : H O.b = some (.cel (w.best.flatMap En.cells))
  nd : O.l'.Nodup
  co : ∀ r, r < w.n → CAt H (F r) (w.c r)
  ndC : ∀ r, r < w.n → NdC (F r)
  ap : ∀ r, r < w.n → ∀ p ∈ (F r).c, p ∉ O.l'
  rr : ∀ r s, r < w.n → s < w.n → r ≠ s → ∀ p ∈ (F r).c, p ∉ (F s).c
def Dom (O : Wo) (F : Nat → Ob) (n : Nat) (p : Nat) : Prop := p ∈ O.l' ∨ ∃ r, r < n ∧ p ∈ (F r).c
structure TurnW (n : Nat) (H : AHeap) (O : Wo) (F : Nat → Ob) (O' : Wo) (F' : Nat → Ob) (H' : AHeap) : Prop where
  w : O'.w = O.w
  new : ∀ p, Dom O' F' n p → Dom O F n p ∨ H p = none
  fr : ∀ p y, H p = some y → ¬ Dom O F n p → H' p = some y
theorem TurnW.refl (n : Nat) (H : AHeap) (O : Wo) (F : Nat → Ob) : TurnW n H O F O F H := ⟨rfl, fun p hp => .inl hp, fun p y hp _ => hp⟩
theorem TurnW.trans {n : Nat} {H H1 H2 : AHeap} {O O1 O2 : Wo} {F F1 F2 : Nat → Ob} (a : TurnW n H O F O1 F1 H1) (b : TurnW n H1 O1 F1 O2 F2 H2) : TurnW n H O F O2 F2 H2 := by
  refine ⟨b.w.trans a.w, fun p hp => ?_, fun p y hp hd => ?_⟩
  · rcases b.new p hp with h | h
    · exact a.new p h
    · by_cases hd : Dom O F n p
      · exact .inl hd
      · right
        cases hx : H p with
        | none => rfl
        | some y => rw [a.fr p y hx hd] at h; cases h
  · have h1 := a.fr p y hp hd
    refine b.fr p y h1 fun h => ?_
    rcases a.new p h with h | h
    · exact hd h
    · rw [h] at hp; cases hp
theorem WAt.live {H : AHeap} {O : Wo} {F : Nat → Ob} {w : Ag.W} (h : WAt H O F w) {p : Nat} (hd : Dom O F w.n p) : ∃ y, H p = some y := by
  rcases hd with hd | ⟨r, hr, hd⟩
  · simp only [Wo.l', List.mem_cons, List.not_mem_nil, or_false] at hd
    rcases hd with e | e | e | e | e | e | e | e <;> rw [e]
    · exact ⟨_, h.aw⟩
    · exact ⟨_, h.ac⟩
    · exact ⟨_, h.asv⟩
    · exact ⟨_, h.ak⟩
    · exact ⟨_, h.al⟩
    · exact ⟨_, h.ai⟩
    · exact ⟨_, h.ar⟩
    · exact ⟨_, h.ab⟩
  · exact (h.co r hr).live p hd
theorem WAt.fresh {H : AHeap} {O : Wo} {F : Nat → Ob} {w : Ag.W} (h : WAt H O F w) {p : Nat} (hp : H p = none) : ¬ Dom O F w.n p := fun hd => by
  obtain ⟨y, hy⟩ := h.live hd
  rw [hp] at hy; cases hy
structure WNe (O : Wo) : Prop where
  wc : O.w ≠ O.c
  ws : O.w ≠ O.s
  wk : O.w ≠ O.k
  wl : O.w ≠ O.l
  wi : O.w ≠ O.i
  wr : O.w ≠ O.r
  wb : O.w ≠ O.b
  cs : O.c ≠ O.s
  ck : O.c ≠ O.k
  cl : O.c ≠ O.l
  ci : O.c ≠ O.i
  cr : O.c ≠ O.r
  cb : O.c ≠ O.b
  sk : O.s ≠ O.k
  sl : O.s ≠ O.l
  si : O.s ≠ O.i
  sr : O.s ≠ O.r
  sb : O.s ≠ O.b
  kl : O.k ≠ O.l
  ki : O.k ≠ O.i
  kr : O.k ≠ O.r
  kb : O.k ≠ O.b
  li : O.l ≠ O.i
  lr : O.l ≠ O.r
  lb : O.l ≠ O.b
  ir : O.i ≠ O.r
  ib : O.i ≠ O.b
  rb : O.r ≠ O.b
theorem Wo.ne {O : Wo} (h : O.l'.Nodup) : WNe O := by
  simp only [Wo.l', List.nodup_cons, List.mem_cons, List.not_mem_nil, or_false, not_or, not_false_eq_true, List.nodup_nil, and_true] at h
  obtain ⟨⟨a1, a2, a3, a4, a5, a6, a7⟩, ⟨b1, b2, b3, b4, b5, b6⟩, ⟨c1, c2, c3, c4, c5⟩, ⟨d1, d2, d3, d4⟩, ⟨e1, e2, e3⟩, ⟨f1, f2⟩, g1⟩ := h
  exact ⟨a1, a2, a3, a4, a5, a6, a7, b1, b2, b3, b4, b5, b6, c1, c2, c3, c4, c5, d1, d2, d3, d4, e1, e2, e3, f1, f2, g1⟩
theorem Wo.nd {O : Wo} (h : WNe O) : O.l'.Nodup := by
  obtain ⟨a1, a2, a3, a4, a5, a6, a7, b1, b2, b3, b4, b5, b6, c1, c2, c3, c4, c5, d1, d2, d3, d4, e1, e2, e3, f1, f2, g1⟩ := h
  simp only [Wo.l', List.nodup_cons, List.mem_cons, List.not_mem_nil, or_false, not_or, not_false_eq_true, List.nodup_nil, and_true]
  exact ⟨⟨a1, a2, a3, a4, a5, a6, a7⟩, ⟨b1, b2, b3, b4, b5, b6⟩, ⟨c1, c2, c3, c4, c5⟩, ⟨d1, d2, d3, d4⟩, ⟨e1, e2, e3⟩, ⟨f1, f2⟩, g1⟩
theorem WAt.turn {H H' : AHeap} {O : Wo} {F : Nat → Ob} {w : Ag.W} {r : Nat} {G : Ob} {c : Ag.Co} (h : WAt H O F w) (hr : r < w.n) (hc : CAt H' G c) (t : TurnK H (F r) G H') :
    WAt H' O (Ag.upd F r G) { w with c := Ag.upd w.c r c } ∧ TurnW w.n H O F O (Ag.upd F r G) H' := by
  have hO : ∀ p y, p ∈ O.l' → H p = some y → H' p = some y := fun p y hp hy => t.fr p y hy fun hF => h.ap r hr p hF hp
  have hF : ∀ q, Ag.upd F r G q = if q = r then G else F q := fun q => rfl
  refine ⟨⟨hO _ _ (by simp [Wo.l']) h.aw, ?_, hO _ _ (by simp [Wo.l']) h.asv, hO _ _ (by simp [Wo.l']) h.ak, hO _ _ (by simp [Wo.l']) h.al, hO _ _ (by simp [Wo.l']) h.ai, hO _ _ (by simp [Wo.l']) h.ar, hO _ _ (by simp [Wo.l']) h.ab, h.nd, fun q hq => ?_, fun q hq => ?_, fun q hq p hp => ?_, fun q s hq hs hne p hp hps => ?_⟩, ⟨rfl, fun p hp => ?_, fun p y hp hd => t.fr p y hp fun hF => hd (.inr ⟨r, hr, hF⟩)⟩⟩
  · have : ((List.range w.n).map fun q => AV.ptr (Ag.upd F r G q).o 0) = (List.range w.n).map fun q => AV.ptr (F q).o 0 := by
      refine List.map_congr_left fun q _ => ?_
      rw [hF]
      split
      · next e => rw [e, t.o]
      · rfl
    show H' O.c = some (.cel ((List.range w.n).map fun q => AV.ptr (Ag.upd F r G q).o 0))
    rw [this]; exact hO _ _ (by simp [Wo.l']) h.ac
  · show CAt H' (Ag.upd F r G q) (Ag.upd w.c r c q)
    by_cases e : q = r
    · rw [e, Ag.upd_same, Ag.upd_same]; exact hc
    · rw [Ag.upd_other _ _ e, Ag.upd_other _ _ e]; exact (h.co q hq).keep t (h.rr q r hq hr e)
  · by_cases e : q = r
    · rw [e, Ag.upd_same]; exact t.nd
    · rw [Ag.upd_other _ _ e]; exact h.ndC q hq
  · by_cases e : q = r
    · rw [e, Ag.upd_same] at hp
      rcases t.new p hp with hp | hp
      · exact h.ap r hr p hp
      · exact fun hx => h.fresh hp (.inl hx)
    · rw [Ag.upd_other _ _ e] at hp; exact h.ap q hq p hp
  · by_cases e : q = r
    · rw [e, Ag.upd_same] at hp
      rw [Ag.upd_other _ _ (fun x => hne (e.trans x.symm))] at hps
      rcases t.new p hp with hp | hp
      · exact h.rr r s hr hs (fun x => hne (e.trans x)) p hp hps
      · exact h.fresh hp (.inr ⟨s, hs, hps⟩)
    · rw [Ag.upd_other _ _ e] at hp
      by_cases e2 : s = r
      · rw [e2, Ag.upd_same] at hps
        rcases t.new p hps with hps | hps
        · exact h.rr q r hq hr e p hp hps
        · exact h.fresh hps (.inr ⟨q, hq, hp⟩)
      · rw [Ag.upd_other _ _ e2] at hps; exact h.rr q s hq hs hne p hp hps
  · rcases hp with hp | ⟨q, hq, hp⟩
    · exact .inl (.inl hp)
    · by_cases e : q = r
      · rw [e, Ag.upd_same] at hp
        rcases t.new p hp with hp | hp
        · exact .inl (.inr ⟨r, hr, hp⟩)
        · exact .inr hp
      · rw [Ag.upd_other _ _ e] at hp
        exact .inl (.inr ⟨q, hq, hp⟩)
end Go.Proofs.Ytbciofnejefkiaa

namespace Go.Proofs.Ytbciofnejefkiaa
open Go Go.Am Go.Proofs

theorem WAt.objs {H H' : AHeap} {O O' : Wo} {F : Nat → Ob} {w w' : Ag.W} (h : WAt H O F w) (hn : w'.n = w.n) (hcc : w'.c = w.c) (e : O'.w = O.w)
    (h1 : H' O'.w = some (.cel (worldC O' w'))) (h2 : H' O'.c = some (.cel ((List.range w.n).map fun r => .ptr (F r).o 0))) (h3 : H' O'.s = some (.cel ((List.range w.n).map fun r => svA r w.n (w'.saved r))))
    (h4 : H' O'.k = some (.cel ((List.range w.n).map fun r => cutA (w'.cut r)))) (h5 : H' O'.l = some (.cel (w'.l.flatMap Mg.cells))) (h6 : H' O'.i = some (.cel (w'.ids.map fun x => uI x.1)))
    (h7 : H' O'.r = some (.cel (w'.ids.map fun x => rowA x.2))) (h8 : H' O'.b = some (.cel (w'.best.flatMap En.cells))) (nd : O'.l'.Nodup)
    (new : ∀ p ∈ O'.l', p ∈ O.l' ∨ H p = none) (fr : ∀ p y, H p = some y → p ∉ O.l' → H' p = some y) : WAt H' O' F w' ∧ TurnW w.n H O F O' F H' := by
  refine ⟨⟨h1, by rw [hn]; exact h2, by rw [hn]; exact h3, by rw [hn]; exact h4, h5, h6, h7, h8, nd, fun r hr => ?_, fun r hr => h.ndC r (hn ▸ hr), fun r hr p hp hx => ?_, fun r s hr hs hne p hp => h.rr r s (hn ▸ hr) (hn ▸ hs) hne p hp⟩, ⟨e, fun p hp => ?_, fun p y hp hd => fr p y hp fun hx => hd (.inl hx)⟩⟩
  · rw [hcc]
    rw [hn] at hr
    obtain ⟨⟨off, xs, a1, a2, a3, a4⟩, ⟨eg, b1, b2⟩, ⟨eh, c1, c2⟩⟩ := h.co r hr
    have hap := h.ap r hr
    exact ⟨⟨off, xs, fr _ _ a1 (hap _ (by simp [Ob.c])), fr _ _ a2 (hap _ (by simp [Ob.c])), a3, a4⟩, ⟨eg, fr _ _ b1 (hap _ (by simp [Ob.c])), b2⟩, ⟨eh, fr _ _ c1 (hap _ (by simp [Ob.c])), c2⟩⟩
  · rw [hn] at hr
    rcases new p hx with hx | hx
    · exact h.ap r hr p hp hx
    · exact h.fresh hx (.inr ⟨r, hr, hp⟩)
  · rcases hp with hp | ⟨q, hq, hp⟩
    · rcases new p hp with hp | hp
      · exact .inl (.inl hp)
      · exact .inr hp
    · exact .inl (.inr ⟨q, hq, hp⟩)
theorem same_calls (H : AHeap) (a b : List Int) (ha : a.length ≤ 1000000000) (hb : b.length ≤ 1000000000) : ACalls Try.prog 71 [rowA a, rowA b] H fun r H' => r = bB (decide (a = b)) ∧ H' = H := by
  unfold rowA
  refine acalls_of_aw2 Try.func71 rfl (by decide) ?_
  (first | focus (refine yy17 ?_; refine yy13 ?_; refine yy62 ?_; refine yy62 ?_; refine yy85 ?_; refine yy3 ?_; refine aw_condp rfl (fun hc => ?_) (fun hc => ?_); refine yy24 ?_; refine yy32 ?_; rotate_left; refine yy82 ?_; refine yy13 ?_; refine yy5 ?_; refine aw_block ?_; rotate_left) | fail)
  · exact ⟨.inl rfl, _, _, _, Ent.refl _ _, ret1 rfl rfl, by rw [decide_eq_false (fun (e : a = b) => hc (congrArg List.length e))]; rfl, rfl⟩
  have hlen : a.length = b.length := by omega
  refine aw_loop (fun mm R' H2 => ∃ (i : Nat), H2 = H ∧ R' = [(0, .sls a.length (a.map mI)), (1, .sls b.length (b.map mI)), (5, .raw (.int .i64 (i : Int)))] ∧ a.take i = b.take i ∧ i + mm = a.length) ?_ ?_
  · exact ⟨a.length, _, _, auto_ent, 0, rfl, rfl, rfl, by omega⟩
  rintro mm R0 H2 ⟨i, rfl, rfl, ht, hi⟩
  by_cases hlt : i < a.length
  · have hga : a[i]? = some a[i] := List.getElem?_eq_getElem hlt
    have hgb : b[i]? = some (b[i]'(by omega)) := List.getElem?_eq_getElem (by omega)
    have g1 := row_get hga
    have g2 := row_get hgb
    have hsn := fun e => take_eq_snoc hga hgb ht e
    have hne := fun e => ne_of_get hga hgb e
    generalize a[i] = x at *
    generalize b[i]'(by omega) = y at *
    (first | focus (refine yy11 ?_; refine yy62 ?_; refine yy74 ?_; refine aw_condp rfl (fun hc => ?_) (fun hc => ?_); refine yy20 ?_; refine yy19 ?_; refine yy119 ?_; refine yy7 ?_; refine yy122 ?_; (apply awt_s; · exact s_load_pce rfl auto_idx); refine yy119 ?_; refine yy7 ?_; refine yy122 ?_; (apply awt_s; · exact s_load_pce rfl auto_idx); (apply awt_s; · exact s_neq rfl rfl); refine yy12 ?_; refine aw_condp rfl (fun hc => ?_) (fun hc => ?_); refine yy24 ?_; refine yy109 ?_; refine yy66 ?_; rotate_left; refine aw_skip ?_; refine yy106 ?_; refine yy2 ?_; refine yy99 ?_; refine yy5 ?_; rotate_left; exact absurd hc auto_no) | fail)
    all_goals first
      | exact ⟨.inl rfl, _, _, _, Ent.refl _ _, ret1 rfl rfl, by rw [decide_eq_false (hne hc)]; rfl, rfl⟩
      | exact ⟨mm - 1, _, _, by omega, auto_ent, i + 1, rfl, rfl, hsn (Decidable.of_not_not hc), by omega⟩
      | (exfalso; omega)
  obtain rfl : i = a.length := by omega
  rw [List.take_length, hlen, List.take_length] at ht
  (first | focus (refine yy11 ?_; refine yy62 ?_; refine yy74 ?_; refine yy37 ?_; intro hc; refine yy24 ?_; rotate_left) | fail)
  all_goals first
    | (exfalso; omega)
    | exact ⟨.inl rfl, _, _, _, Ent.refl _ _, ret1 rfl rfl, by rw [decide_eq_true ht]; rfl, rfl⟩
end Go.Proofs.Ytbciofnejefkiaa
