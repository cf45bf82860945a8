import Derived.Test.YtbciofnejefkiaaIa2
import Derived.Test.YtbciofnejefkiaaIz
set_option linter.unusedVariables false
set_option linter.unusedSimpArgs false
set_option maxRecDepth 20000
set_option maxHeartbeats 4000000
namespace Go.Proofs.Ytbciofnejefkiaa

namespace Ag
def LeV (a b : Vt) : Prop := a.last < b.last ∨ a.last = b.last ∧ a.list.length ≤ b.list.length
theorem LeV.refl (a : Vt) : LeV a a := .inr ⟨rfl, Nat.le_refl _⟩
theorem LeV.trans {a b c : Vt} (h : LeV a b) (k : LeV b c) : LeV a c := by
  unfold LeV at *; omega
theorem best_spec (c : Co) : ∀ k, ∃ b, (List.range k).foldl (better c) ⟨c.last, c.list⟩ = b ∧ (b = ⟨c.last, c.list⟩ ∨ (∃ q, c.got q = some b) ∧ begins b.list (c.list.take c.agreed) = true) ∧ LeV ⟨c.last, c.list⟩ b ∧
    ∀ q x, q < k → c.got q = some x → begins x.list (c.list.take c.agreed) = true → LeV x b
  | 0 => ⟨_, rfl, .inl rfl, LeV.refl _, fun q x h => absurd h (Nat.not_lt_zero _)⟩
  | k + 1 => by
    obtain ⟨b, h1, h2, h3, h4⟩ := best_spec c k
    rw [List.range_succ, List.foldl_append, h1]
    simp only [List.foldl_cons, List.foldl_nil]
    refine ⟨_, rfl, ?_⟩
    unfold better
    cases hg : c.got k with
    | none =>
      refine ⟨h2, h3, fun q x hq hx hb => ?_⟩
      rcases Nat.lt_succ_iff_lt_or_eq.1 hq with h | rfl
      · exact h4 q x h hx hb
      · rw [hg] at hx; cases hx
    | some y =>
      dsimp only
      split
      · next hy =>
        refine ⟨.inr ⟨⟨k, hg⟩, hy.2⟩, h3.trans (by unfold LeV; omega), fun q x hq hx hb => ?_⟩
        rcases Nat.lt_succ_iff_lt_or_eq.1 hq with h | rfl
        · exact (h4 q x h hx hb).trans (by unfold LeV; omega)
        · rw [hg] at hx; cases hx; exact LeV.refl _
      · next hy =>
        refine ⟨h2, h3, fun q x hq hx hb => ?_⟩
        rcases Nat.lt_succ_iff_lt_or_eq.1 hq with h | rfl
        · exact h4 q x h hx hb
        · rw [hg] at hx; cases hx
          have : ¬ (b.last < y.last ∨ y.last = b.last ∧ b.list.length < y.list.length) := fun h => hy ⟨h, hb⟩
          unfold LeV; omega
variable {g0 g : Gh} {r : Nat} {d0 : Co} {s : St}
theorem COK.mine {c : Co} (G : GOK g) (hc : COK g c) (hl : c.view % g.n = c.me) {q : Nat} {k : List En} (hq : q < g.n) (h : g.acc q c.view = some k) : c.last = c.view ∧ k <+: c.list := by
  obtain ⟨_, _, L, hL, h1, _⟩ := G.acc q hq _ k h
  rw [hl] at hL
  have : c.last = c.view := by
    rcases Nat.eq_or_lt_of_le hc.last with h | h
    · exact h
    · rw [hc.later _ h] at hL; cases hL
  have hcur := hc.cur
  rw [this, hL] at hcur
  exact ⟨this, by rw [← Option.some.inj hcur]; exact h1⟩
theorem best_ok {c : Co} (G : GOK g) (hc : COK g c) (hl : c.view % g.n = c.me) (hs : c.quorum ≤ c.size) :
    LOK g.S c.best.list ∧ (c.last = c.view → c.list <+: c.best.list) ∧ c.list.take c.agreed <+: c.best.list ∧ (c.last < c.view → Elec g c.view c.best.list c.best.list.length) := by
  obtain ⟨b, h1, h2, h3, h4⟩ := best_spec c c.n
  have hb : c.best = b := h1
  rw [hb]
  have hlok := hc.lok G
  have hlast := hc.last
  have hrn := hc.me
  -- what the votes are
  have hv : ∀ q x, c.got q = some x → q < g.n ∧ c.view ≤ g.V q ∧ x.last ≤ c.view ∧ LOK g.S x.list ∧
      ((c.last = c.view ∧ x.last = c.view ∧ x.list <+: c.list) ∨ (x.last < c.view ∧ g.acc q x.last = some x.list ∧ ∀ u, x.last < u → u < c.view → g.acc q u = none)) := by
    intro q x hx
    obtain ⟨x1, ⟨x2, x3, k, x4, x5, x6⟩, _⟩ := hc.got q x hx
    refine ⟨x1, x2, x3, ((G.acc q x1 _ k x4).2.1).pre x5, ?_⟩
    rcases Nat.eq_or_lt_of_le x3 with h | h
    · rw [h] at x4
      obtain ⟨y1, y2⟩ := hc.mine G hl x1 x4
      exact .inl ⟨y1, h, x5.trans y2⟩
    · obtain ⟨y1, y2⟩ := x6 h
      rw [← y1] at x4
      exact .inr ⟨h, x4, y2⟩
  -- all votes are counted
  have h5 : ∀ q x, c.got q = some x → LeV x b := by
    intro q x hx
    obtain ⟨x1, x2, x3, x4, x5⟩ := hv q x hx
    rcases x5 with ⟨y1, y2, y3⟩ | ⟨y1, y2, y3⟩
    · refine LeV.trans (b := ⟨c.last, c.list⟩) (.inr ⟨by rw [y2]; exact y1.symm, y3.length_le⟩) h3
    · refine Classical.byContradiction fun hn => ?_
      have hbl : c.last ≤ b.last := by unfold LeV at h3; simp only at h3; omega
      have hxl : b.last ≤ x.last := by unfold LeV at hn; omega
      have hp : c.list.take c.agreed <+: x.list := by
        rcases Nat.eq_or_lt_of_le (Nat.le_trans hbl hxl) with he | he
        · rcases Comm.acc G hc.comm (by omega) x1 y2 with h | h
          · exact h
          · have z1 := h.length_le
            rw [List.length_take] at z1
            have : c.list.length ≤ b.list.length := by unfold LeV at h3; simp only at h3; omega
            have : b.list.length < x.list.length := by unfold LeV at hn; omega
            omega
        · exact Comm.lt G hc.comm he x1 y2
      exact hn (h4 q x (by rw [hc.n]; exact x1) hx ((begins_iff x4.z (hlok.z.take _)).2 hp))
  have hbo : LOK g.S b.list := by
    rcases h2 with rfl | ⟨⟨q, hq⟩, _⟩
    · exact hlok
    · exact (hv q b hq).2.2.2.1
  refine ⟨hbo, fun he => ?_, ?_, fun hlt => ?_⟩
  · rcases h2 with rfl | ⟨⟨q, hq⟩, _⟩
    · exact List.prefix_refl _
    · obtain ⟨x1, x2, x3, x4, x5⟩ := hv q b hq
      rcases x5 with ⟨y1, y2, y3⟩ | ⟨y1, y2, y3⟩
      · have : c.list.length ≤ b.list.length := by unfold LeV at h3; simp only at h3; omega
        have : b.list = c.list := by
          obtain ⟨t, ht⟩ := y3
          rw [← ht, List.length_append] at this
          rw [List.length_eq_zero_iff.1 (show t.length = 0 by omega), List.append_nil] at ht
          exact ht
        rw [this]; exact List.prefix_refl _
      · unfold LeV at h3; simp only at h3; omega
  · rcases h2 with rfl | ⟨⟨q, hq⟩, hbeg⟩
    · exact List.take_prefix _ _
    · exact (begins_iff hbo.z (hlok.z.take _)).1 hbeg
  · have hnl : ∀ q x, c.got q = some x → x.last < c.view ∧ g.acc q x.last = some x.list ∧ ∀ u, x.last < u → u < c.view → g.acc q u = none := fun q x hx => by
      obtain ⟨_, _, _, _, x5⟩ := hv q x hx
      rcases x5 with ⟨y1, _⟩ | y
      · omega
      · exact y
    have hown : ∃ q, q < g.n ∧ g.acc q b.last = some b.list := by
      rcases h2 with rfl | ⟨⟨q, hq⟩, _⟩
      · exact ⟨c.me, hrn, hc.cur⟩
      · exact ⟨q, (hv q b hq).1, (hnl q b hq).2.1⟩
    have hbv : b.last < c.view := by
      rcases h2 with rfl | ⟨⟨q, hq⟩, _⟩
      · exact hlt
      · exact (hnl q b hq).1
    obtain ⟨o, ho, hob⟩ := hown
    obtain ⟨_, _, Lb, hLb, z1, z2⟩ := G.acc o ho _ _ hob
    refine ⟨fun q => (c.got q).isSome, b.last, Lb, ?_, hbv, fun p hp hq => ?_, hLb, z1.length_le, z2, (take_pre z1 (Nat.le_refl _)).symm⟩
    · unfold quo
      unfold Co.quorum Co.size at hs
      rw [hc.n] at hs; exact hs
    · obtain ⟨x, hx⟩ := Option.isSome_iff_exists.1 hq
      obtain ⟨x1, x2, x3, x4, _⟩ := hv p x hx
      obtain ⟨y1, y2, y3⟩ := hnl p x hx
      have z := h5 p x hx
      refine ⟨x2, fun u hu hv' => y3 u (by unfold LeV at z; omega) hv', fun l hl => ?_⟩
      have : x.last = b.last := by
        rcases Nat.lt_or_ge x.last b.last with h | h
        · rw [y3 _ h hbv] at hl; cases hl
        · unfold LeV at z; omega
      rw [← this, y2] at hl
      cases hl
      unfold LeV at z; omega

theorem ins_perm (x : Nat) : ∀ l, (ins x l).Perm (x :: l)
  | [] => .refl _
  | y :: l => by
    unfold ins; split
    · exact .refl _
    · exact ((ins_perm x l).cons y).trans (.swap x y l)
theorem sort_perm : ∀ l, (sort l).Perm l
  | [] => .refl _
  | x :: l => (ins_perm x (sort l)).trans ((sort_perm l).cons x)
theorem ins_sorted (x : Nat) : ∀ l, l.Pairwise (· ≤ ·) → (ins x l).Pairwise (· ≤ ·)
  | [], _ => by simp [ins]
  | y :: l, h => by
    unfold ins
    rw [List.pairwise_cons] at h
    split
    · next hxy =>
      refine List.pairwise_cons.2 ⟨fun z hz => ?_, List.pairwise_cons.2 h⟩
      rcases List.mem_cons.1 hz with rfl | hz
      · exact hxy
      · exact Nat.le_trans hxy (h.1 z hz)
    · next hxy =>
      refine List.pairwise_cons.2 ⟨fun z hz => ?_, ins_sorted x l h.2⟩
      rcases List.mem_cons.1 ((ins_perm x l).mem_iff.1 hz) with rfl | hz
      · omega
      · exact h.1 z hz
theorem sort_sorted : ∀ l, (sort l).Pairwise (· ≤ ·)
  | [] => List.Pairwise.nil
  | x :: l => ins_sorted x _ (sort_sorted l)
theorem sort_kth (l : List Nat) (q : Nat) (h0 : 0 < q) (h : q ≤ l.length) : q ≤ l.countP fun x => decide ((sort l).getD (l.length - q) 0 ≤ x) := by
  have hp := sort_perm l
  have hl : (sort l).length = l.length := hp.length_eq
  rw [← hp.countP_eq]
  have hs := sort_sorted l
  generalize sort l = m at *
  rw [← List.take_append_drop (l.length - q) m] at hs ⊢
  rw [List.countP_append]
  have hd : (m.drop (l.length - q)).length = q := by rw [List.length_drop]; omega
  have hg : (m.take (l.length - q) ++ m.drop (l.length - q)).getD (l.length - q) 0 = (m.drop (l.length - q)).headD 0 := by
    rw [List.take_append_drop, List.headD_eq_head?_getD, List.head?_drop]; simp [List.getD]
  rw [hg]
  have h2 := (List.pairwise_append.1 hs).2.1
  have : (m.drop (l.length - q)).countP (fun x => decide ((m.drop (l.length - q)).headD 0 ≤ x)) = q := by
    generalize m.drop (l.length - q) = k at *
    rw [← hd, List.countP_eq_length]
    intro x hx
    rw [decide_eq_true_eq]
    cases k with
    | nil => cases hx
    | cons a k =>
      rcases List.mem_cons.1 hx with rfl | hx
      · exact Nat.le_refl _
      · exact (List.pairwise_cons.1 h2).1 x hx
  omega
theorem settle_fin {d : Co} (G : GOK g) (h1 : COK g d) (hl : d.view % g.n = d.me) (he : d.last = d.view) :
    COK g (if d.helds.length < d.quorum then d else { d with agreed := max d.agreed (min ((sort d.helds).getD (d.helds.length - d.quorum) 0) d.list.length) }) := by
  have hcur := h1.cur
  rw [he] at hcur
  split
  · exact h1
  · next hq =>
    have hk := sort_kth d.helds d.quorum (by unfold Co.quorum; omega) (by omega)
    generalize (sort d.helds).getD (d.helds.length - d.quorum) 0 = k at *
    have hm : min k d.list.length ≤ d.list.length := Nat.min_le_right _ _
    have hC : Comm g d.last (d.list.take (min k d.list.length)) := by
      refine ⟨d.last, Nat.le_refl _, fun q => ((d.held q).map fun h => decide (k ≤ h)).getD false, ?_, fun p hp hq => ?_⟩
      · unfold quo
        unfold Co.helds at hk
        rw [List.countP_filterMap, h1.n] at hk
        unfold Co.quorum at hk
        rw [h1.n] at hk
        exact hk
      · cases hh : d.held p with
        | none => simp only [hh] at hq; cases hq
        | some h =>
          simp only [hh, Option.map_some, Option.getD_some, decide_eq_true_eq] at hq
          obtain ⟨_, l, h2, h3⟩ := h1.held p h hh
          refine ⟨l, by rw [he]; exact h2, ?_⟩
          obtain ⟨_, _, L, hL, h4, _⟩ := G.acc p hp _ _ h2
          rw [hl, hcur] at hL
          cases hL
          exact List.prefix_of_prefix_length_le (List.take_prefix _ _) h4 (by rw [List.length_take]; omega)
    refine ⟨h1.me, h1.n, h1.view, h1.most, h1.last, h1.cur, h1.later, ?_, ?_, h1.got, h1.held, h1.lead, h1.wait, h1.waitn⟩
    · have := h1.agr
      show max d.agreed (min k d.list.length) ≤ d.list.length
      omega
    · show Comm g d.last (d.list.take (max d.agreed (min k d.list.length)))
      rcases Nat.le_total d.agreed (min k d.list.length) with h | h
      · rw [Nat.max_eq_right h]; exact hC
      · rw [Nat.max_eq_left h]; exact h1.comm
theorem settle_ok {c : Co} (G : GOK g) (hc : COK g c) (hl : c.view % g.n = c.me) (he : c.last = c.view) : COK g c.settle := by
  have hcur := hc.cur
  rw [he] at hcur
  have h1 : COK g { c with held := upd c.held c.me (some c.list.length) } := by
    refine ⟨hc.me, hc.n, hc.view, hc.most, hc.last, hc.cur, hc.later, hc.agr, hc.comm, hc.got, fun q h hq => ?_, hc.lead, hc.wait, hc.waitn⟩
    have hq' : (upd c.held c.me (some c.list.length)) q = some h := hq
    unfold upd at hq'
    split at hq'
    · next e => subst e; cases hq'; exact ⟨hc.me, c.list, hcur, Nat.le_refl _⟩
    · exact hc.held q h hq'
  exact settle_fin G h1 hl he
end Ag
end Go.Proofs.Ytbciofnejefkiaa

namespace Go.Proofs.Ytbciofnejefkiaa
open Go Go.Am Go.Proofs

theorem isNaN_calls (H : AHeap) (a : Nat) : ACalls Try.prog 113 [uI a] H fun r H' => r = bB false ∧ H' = H := by
  refine acalls_of_aw1 Try.func113 rfl (by decide) ?_
  (first | focus (refine yy16 ?_; refine yy11 ?_; refine yy3 ?_; refine yy69 ?_; refine yy8 ?_; rotate_left) | fail)
  exact ⟨.inl rfl, _, _, _, Ent.refl _ _, ret1 rfl rfl, by rw [show (false : Bool) = decide (a ≠ a) from by simp]; rfl, rfl⟩
theorem Less_calls (H : AHeap) (a b : Nat) : ACalls Try.prog 102 [uI a, uI b] H fun r H' => r = bB (decide (a < b)) ∧ H' = H := by
  refine acalls_of_aw2 Try.func102 rfl (by decide) ?_
  (first | focus (refine yy16 ?_; refine yy11 ?_; (refine zc auto_wl (isNaN_calls _ _) ?_; rintro r H' ⟨rfl, rfl⟩); refine yy3 ?_; refine yy41 ?_; refine yy32 ?_; refine yy56 ?_; refine yy14 ?_; refine yy14 ?_; refine yy14 ?_; refine yy94 ?_; refine yy56 ?_; refine yy8 ?_; rotate_left) | fail)
  exact ⟨.inl rfl, _, _, _, Ent.refl _ _, ret1 rfl rfl, rfl, rfl⟩
theorem Len64_calls (H : AHeap) (v : Nat) (hv : v ≤ 7) : ACalls Try.prog 106 [uI v] H fun r H' => (∃ z : Int, r = mI z) ∧ H' = H := by
  refine acalls_of_aw1 Try.func106 rfl (by decide) ?_
  (first | focus (refine yy16 ?_; refine yy10 ?_; refine yy96 ?_; refine yy4 ?_; refine yy55 ?_; intro hc; refine yy10 ?_; refine yy96 ?_; refine yy4 ?_; refine yy55 ?_; intro hc; refine yy10 ?_; refine yy96 ?_; refine yy4 ?_; refine yy55 ?_; intro hc; refine yy11 ?_; refine yy3 ?_; refine awl_s rfl (s_convn rfl (by omega)) ?_; refine awl_s rfl (s_index_str rfl rfl auto_len) ?_; refine awl_s rfl (s_convi rfl (Int.le_trans (by decide) (Int.natCast_nonneg _)) (Int.ofNat_le.2 (Nat.le_of_lt (Nat.lt_trans (UInt8.toNat_lt _) (by decide))))) ?_; refine awl_s rfl (s_add (k := .i64) rfl rfl) ?_; refine yy8 ?_; rotate_left) | fail)
  exact ⟨.inl rfl, _, _, _, Ent.refl _ _, ret1 rfl rfl, ⟨_, rfl⟩, rfl⟩
theorem Len_calls (H : AHeap) (v : Nat) (hv : v ≤ 7) : ACalls Try.prog 92 [uI v] H fun r H' => (∃ z : Int, r = mI z) ∧ H' = H := by
  refine acalls_of_aw1 Try.func92 rfl (by decide) ?_
  (first | focus (refine yy16 ?_; refine aw_seq ?_; refine yy73 ?_; refine yy11 ?_; (refine zc auto_wl (Len64_calls _ v hv) ?_; rintro r H' ⟨⟨z, rfl⟩, rfl⟩); refine yy8 ?_; rotate_left) | fail)
  exact ⟨.inl rfl, _, _, _, Ent.refl _ _, ret1 rfl rfl, ⟨_, rfl⟩, rfl⟩
theorem swap2 (U R : List Nat) (y x : Nat) : (((U ++ y :: x :: R).map uI).set (U.length + 1) (uI y)).set U.length (uI x) = (U ++ x :: y :: R).map uI := by
  simp [List.map_append, List.set_append]
theorem le_insert {S1 S2 : List Nat} {x : Nat} (h : (S1 ++ S2).Pairwise (· ≤ ·)) (h1 : ∀ z ∈ S1.getLast?, z ≤ x) (h2 : ∀ z ∈ S2.head?, x ≤ z) : (S1 ++ x :: S2).Pairwise (· ≤ ·) := by
  obtain ⟨a1, a2, a3⟩ := List.pairwise_append.1 h
  have b1 : ∀ z ∈ S1, z ≤ x := by
    rcases List.eq_nil_or_concat S1 with rfl | ⟨U, y, e⟩
    · simp
    · rw [List.concat_eq_append] at e
      subst e
      have hy := h1 y (by simp)
      intro z hz
      rcases List.mem_append.1 hz with hz | hz
      · exact Nat.le_trans ((List.pairwise_append.1 a1).2.2 z hz y (by simp)) hy
      · rw [List.mem_singleton.1 hz]; exact hy
  have b2 : ∀ z ∈ S2, x ≤ z := by
    cases S2 with
    | nil => simp
    | cons y U =>
      have hy := h2 y (by simp)
      intro z hz
      rcases List.mem_cons.1 hz with rfl | hz
      · exact hy
      · exact Nat.le_trans hy ((List.pairwise_cons.1 a2).1 z hz)
  refine List.pairwise_append.2 ⟨a1, List.pairwise_cons.2 ⟨b2, a2⟩, fun z hz w hw => ?_⟩
  rcases List.mem_cons.1 hw with rfl | hw
  · exact b1 z hz
  · exact a3 z hz w hw
theorem last_of {S1 : List Nat} {j : Nat} (h : S1.length = j) (hj : 0 < j) : ∃ U y, S1 = U ++ [y] ∧ U.length = j - 1 := by
  rcases List.eq_nil_or_concat S1 with rfl | ⟨U, y, e⟩
  · simp at h; omega
  · rw [List.concat_eq_append] at e; subst e; exact ⟨U, y, rfl, by simp at h; omega⟩
theorem heap_id {H : AHeap} {o : Nat} {x : AO} (h : H o = some x) : H.set o x = H := funext fun p => by
  simp only [AHeap.set]; split
  · next e => rw [e]; exact h.symm
  · rfl
theorem insN_calls (H : AHeap) (oS n : Nat) (l : List Nat) (hS : H oS = some (.cel (l.map uI))) (hn : n = l.length) (h7 : n ≤ 1000) :
    ACalls Try.prog 96 [.vw oS 1 0 n, mI 0, mI (n : Int)] H fun r H' => r = .tup [] ∧ ∃ S : List Nat, S.Perm l ∧ S.Pairwise (· ≤ ·) ∧ H' = H.set oS (.cel (S.map uI)) := by
  have hid := heap_id hS
  have hn2 : ((n : Nat) : Int) = ((n : Nat) : Int) := rfl
  refine acalls_of_aw3 Try.func96 rfl (by decide) ?_
  (first | focus (refine yy11 ?_; refine yy79 ?_; refine yy5 ?_; refine aw_block ?_; rotate_left) | fail)
  refine aw_loop (fun mm R' H2 => ∃ (i : Nat) (P Q S : List Nat), l = P ++ Q ∧ (P.length = i ∨ i = 1 ∧ l = []) ∧ 0 < i ∧ S.Perm P ∧ S.Pairwise (· ≤ ·) ∧ H2 = H.set oS (.cel ((S ++ Q).map uI)) ∧ R' = [(0, .vw oS 1 0 n), (1, mI 0), (2, mI (n : Int)), (6, .raw (.int .i64 (i : Int)))] ∧ Q.length = mm) ?_ ?_
  · cases l with
    | nil => exact ⟨0, _, _, auto_ent, 1, [], [], [], rfl, .inr ⟨rfl, rfl⟩, by decide, List.Perm.refl _, List.Pairwise.nil, by simpa using hid.symm, rfl, rfl⟩
    | cons x l => exact ⟨l.length, _, _, auto_ent, 1, [x], l, [x], rfl, .inl rfl, by decide, List.Perm.refl _, List.pairwise_singleton _ _, by simpa using hid.symm, rfl, rfl⟩
  rintro mm R0 H2 ⟨i, P, Q, S, hl, hi, hi0, hSP, hSs, rfl, rfl, rfl⟩
  have hSl := hSP.length_eq
  have hnl : n = P.length + Q.length := by rw [hn, hl, List.length_append]
  by_cases hlt : i < n
  · have hPi : P.length = i := by rcases hi with h | ⟨_, h⟩; exact h; rw [h] at hn; simp at hn; omega
    obtain ⟨x, Q, rfl⟩ : ∃ y W, Q = y :: W := by cases Q with | nil => simp at hnl; omega | cons c d => exact ⟨c, d, rfl⟩
    simp only [List.length_cons] at hnl
    have hSPh := Hdq.mk hSP
    have hSh := Hdq.mk hS
    clear hSP hS hi hid
    (first | focus (refine yy10 ?_; refine yy3 ?_; refine yy64 ?_; refine aw_condp rfl (fun hc => ?_) (fun hc => ?_); refine yy21 ?_; refine yy11 ?_; refine yy5 ?_; refine aw_block ?_; rotate_left; exact absurd hc auto_no) | fail)
    all_goals try (exfalso; omega)
    refine aw_loop (fun mm2 R' H3 => ∃ (j : Nat) (S1 S2 : List Nat), S = S1 ++ S2 ∧ S1.length = j ∧ (∀ z ∈ S2.head?, x ≤ z) ∧ H3 = H.set oS (.cel ((S1 ++ x :: (S2 ++ Q)).map uI)) ∧ R' = [(0, .vw oS 1 0 n), (1, mI 0), (2, mI (n : Int)), (6, .raw (.int .i64 (i : Int))), (7, .raw (.int .i64 (j : Int)))] ∧ S1.length = mm2) ?_ ?_
    · exact ⟨S.length, _, _, auto_ent, i, S, [], by simp, by omega, fun z hz => (by cases hz), by simp, rfl, rfl⟩
    rintro mm2 R1 H3 ⟨j, S1, S2, rfl, hj, hh2, rfl, rfl, rfl⟩
    simp only [List.length_append] at hSl
    by_cases hja : 0 < j
    · obtain ⟨U, y, rfl, hU⟩ := last_of hj hja
      have hsw := swap2 U (S2 ++ Q) y x
      rw [hU, show j - 1 + 1 = j by omega] at hsw
      have hws : (U ++ [y]) ++ x :: (S2 ++ Q) = U ++ y :: x :: (S2 ++ Q) := by simp
      rw [hws]
      have g1 : (U ++ y :: x :: (S2 ++ Q))[j - 1]? = some y := by rw [← hU]; simp
      have g2 : (U ++ y :: x :: (S2 ++ Q))[j]? = some x := by rw [show j = U.length + 1 by omega]; simp
      have g3 : (U ++ y :: x :: (S2 ++ Q)).length = n := by simp at hSl ⊢; omega
      have g4 : ((U ++ y :: x :: (S2 ++ Q)).map uI).length = n := by rw [List.length_map]; exact g3
      generalize hW : U ++ y :: x :: (S2 ++ Q) = ws at *
      have hSs2 := Hdq.mk hSs
      have hWh := Hdq.mk hW
      clear hSs hW hws
      (first | focus (refine aw_seq ?_; refine yy19 ?_; (apply awt_s; · exact s_move (v := .raw _) rfl); (apply awt_s; · exact s_move (v := .raw _) rfl); (apply awt_s; · exact s_gtn rfl rfl); (apply awt_s; · exact s_move (v := .raw _) rfl); refine zt1 rfl rfl rfl (fun hc => ?_) (fun hc => ?_); (apply awt_s; · exact s_move (v := .vw _ _ _ _) rfl); refine yy1 ?_; (apply awt_s; · exact s_move (v := .raw _) rfl); refine yy1 ?_; (apply awt_s; · exact s_indexAddr_vw rfl rfl auto_len); refine yy1 ?_; (apply awt_s; · exact s_load_cel rfl auto_heap auto_idx); refine yy1 ?_; (apply awt_s; · exact s_move (v := .vw _ _ _ _) rfl); refine yy1 ?_; (apply awt_s; · exact s_move (v := .raw _) rfl); refine yy1 ?_; (apply awt_s; · exact s_subn rfl rfl (by omega) (by omega)); refine yy1 ?_; (apply awt_s; · exact s_indexAddr_vw rfl rfl auto_len); refine yy1 ?_; (apply awt_s; · exact s_load_cel rfl auto_heap auto_idx); refine yy1 ?_; (apply awt_s; · exact s_callc auto_wl (Less_calls _ x y)); (apply awt_s; · exact s_pick_t (v := .raw _) rfl rfl); refine yy12 ?_; refine aw_condp rfl (fun hc => ?_) (fun hc => ?_); refine yy21 ?_; refine aw_draw2 false auto_kr auto_dk auto_dk ?_; (apply awm_s; · (intro H1; exact s_move (v := .vw _ _ _ _) rfl)); (apply awm_s; · (intro H1; exact s_move (v := .raw _) rfl)); (apply awm_s; · (intro H1; exact s_move (v := .vw _ _ _ _) rfl)); (apply awm_s; · (intro H1; exact s_move (v := .raw _) rfl)); (apply awm_s; · (intro H1; exact s_subn rfl rfl (by omega) (by omega))); (apply awm_s; · (intro H1; exact s_move (v := .vw _ _ _ _) rfl)); (apply awm_s; · (intro H1; exact s_move (v := .raw _) rfl)); (apply awm_s; · (intro H1; exact s_subn rfl rfl (by omega) (by omega))); (apply awm_s; · (intro H1; exact s_indexAddr_vw rfl rfl auto_len)); (apply awm_e auto_dk; (· exact s_load_cel rfl auto_heap auto_idx)); (apply awm_s; · (intro H1; exact s_move (v := .vw _ _ _ _) rfl)); (apply awm_s; · (intro H1; exact s_move (v := .raw _) rfl)); (apply awm_s; · (intro H1; exact s_indexAddr_vw rfl rfl auto_len)); (apply awm_e auto_dk; (· exact s_load_cel rfl auto_heap auto_idx)); (apply awm_s; · (intro H1; exact s_indexAddr_vw rfl rfl auto_len)); refine awm_b0 ?_; (apply awm_s; · (intro H1; exact s_indexAddr_vw rfl rfl auto_len)); refine awm_b0 ?_; refine awm_nil ?_; refine awb_cons0 (fun Rx K1 hK1x => ?_); refine yy67 ?_; refine yy7 ?_; (refine hK1x _ ?_; clear hK1x K1 Rx); refine awb_cons0 (fun Rx K1 hK1x => ?_); refine yy67 ?_; refine yy7 ?_; (refine hK1x _ ?_; clear hK1x K1 Rx); refine awb_nil ?_; refine yy86 ?_; refine yy3 ?_; refine awl_s rfl (s_subn rfl rfl (by omega) (by omega)) ?_; refine yy5 ?_; rotate_left; refine yy102 ?_; refine yy86 ?_; refine yy3 ?_; refine yy79 ?_; refine yy5 ?_; rotate_left; exact absurd hc auto_no) | fail)
      all_goals try (exfalso; omega)
      · exact ⟨U.length, _, _, by simp, Ent.sub _ (by (repeat' (first | exact RSub.nil _ | apply RSub.cons)); all_goals rfl), j - 1, U, y :: S2, by simp, hU, fun z hz => (by simp at hz; omega), (by simp only [Nat.zero_add, Nat.mul_one]; rw [hsw]; simp), rfl, rfl⟩
      · exact ⟨Q.length, _, _, by simp, Ent.sub _ (by (repeat' (first | exact RSub.nil _ | apply RSub.cons)); all_goals rfl), i + 1, P ++ [x], Q, (U ++ [y]) ++ x :: S2, by rw [hl]; simp, .inl (by simp; omega), by omega, (List.perm_middle.trans (List.Perm.cons x hSPh.out)).trans (List.perm_append_singleton x P).symm, le_insert hSs2.out (fun z hz => (by simp at hz; omega)) hh2, by rw [← hWh.out]; simp, rfl, rfl⟩
    have hS1 : S1 = [] := List.length_eq_zero_iff.1 (by omega)
    subst hS1
    (first | focus (refine aw_seq ?_; refine yy19 ?_; (apply awt_s; · exact s_move (v := .raw _) rfl); (apply awt_s; · exact s_move (v := .raw _) rfl); (apply awt_s; · exact s_gtn rfl rfl); (apply awt_s; · exact s_move (v := .raw _) rfl); refine zt1 rfl rfl rfl (fun hc => ?_) (fun hc => ?_); exact absurd hc auto_no; refine yy18 ?_; refine yy18 ?_; refine zt4 rfl rfl ?_; (apply awt_s; · exact s_pick_f (v := .raw _) rfl rfl); refine yy12 ?_; refine aw_cond_f rfl ?_; refine yy102 ?_; refine yy86 ?_; refine yy3 ?_; refine yy79 ?_; refine yy5 ?_; rotate_left) | fail)
    all_goals try (exfalso; omega)
    exact ⟨Q.length, _, _, by simp, Ent.sub _ (by (repeat' (first | exact RSub.nil _ | apply RSub.cons)); all_goals rfl), i + 1, P ++ [x], Q, x :: S2, by rw [hl]; simp, .inl (by simp; omega), by omega, (List.Perm.cons x hSPh.out).trans (List.perm_append_singleton x P).symm, le_insert (S1 := []) hSs (fun z hz => by cases hz) hh2, by simp, rfl, rfl⟩
  (first | focus (refine yy10 ?_; refine yy3 ?_; refine yy64 ?_; refine yy38 ?_; intro hc; refine yy102 ?_; rotate_left) | fail)
  all_goals try (exfalso; omega)
  have hQ : Q = [] := List.length_eq_zero_iff.1 (by rcases hi with h | ⟨_, h⟩; omega; rw [h] at hn; simp at hn; omega)
  subst hQ
  exact ⟨.inr rfl, _, _, _, Ent.refl _ _, ret0 rfl, rfl, S, by rw [hl, List.append_nil]; exact hSP, hSs, by simp⟩
theorem Sort_calls (H : AHeap) (oS n : Nat) (l : List Nat) (hS : H oS = some (.cel (l.map uI))) (hn : n = l.length) (h7 : n ≤ 7) :
    ACalls Try.prog 80 [.vw oS 1 0 n] H fun r H' => r = .tup [] ∧ H' = H.set oS (.cel ((Ag.sort l).map uI)) := by
  have huq : ∀ S : List Nat, S.Perm l → S.Pairwise (· ≤ ·) → S = Ag.sort l := fun S h1 h2 => List.Perm.eq_of_pairwise (fun a b _ _ h k => Nat.le_antisymm h k) h2 (Ag.sort_sorted l) (h1.trans (Ag.sort_perm l).symm)
  have hpdq : ∀ (H : AHeap) (z : Int), H oS = some (.cel (l.map uI)) → ACalls Try.prog 91 [.vw oS 1 0 n, mI 0, mI (n : Int), mI z] H fun r H' => r = .tup [] ∧ H' = H.set oS (.cel ((Ag.sort l).map uI)) := by
    intro H z hS
    refine acalls_of_aw4 Try.func91 rfl (by decide) ?_
    have hI := fun H h => insN_calls H oS n l h hn (by omega)
    (first | focus (refine yy16 ?_; refine yy16 ?_; refine aw_block ?_; rotate_left) | fail)
    refine aw_loop (fun mm R' H2 => H2 = H ∧ mm = 0 ∧ R' = [(9, .raw (.bool true)), (8, .raw (.bool true)), (0, .vw oS 1 0 n), (1, mI 0), (2, mI (n : Int)), (3, mI z)]) ⟨0, _, _, auto_ent, rfl, rfl, rfl⟩ ?_
    rintro mm R0 H2 ⟨rfl, rfl, rfl⟩
    (first | focus (refine aw_block ?_; refine yy11 ?_; refine yy3 ?_; refine awl_s rfl (s_subn rfl rfl (by omega) (by omega)) ?_; refine yy5 ?_; refine yy10 ?_; refine awl_s rfl (s_len_ rfl rfl) ?_; refine yy4 ?_; refine aw_condp rfl (fun hc => ?_) (fun hc => ?_); refine yy2 ?_; refine yy52 ?_; refine yy3 ?_; refine yy3 ?_; (refine zc auto_wl (hI _ auto_heap) ?_; rintro r H' ⟨rfl, S, s1, s2, rfl⟩); refine yy28 ?_; refine k_seq_ret ?_; refine yy24 ?_; refine k_block_ret ?_; rotate_left; exact absurd hc auto_no) | fail)
    all_goals try (exfalso; omega)
    exact ⟨.inl rfl, _, _, _, Ent.refl _ _, ret0 rfl, rfl, by rw [huq S s1 s2]⟩
  refine acalls_of_aw1 Try.func80 rfl (by decide) ?_
  (first | focus (refine yy2 ?_; refine yy52 ?_; refine yy87 ?_; refine yy5 ?_; refine aw_region ?_; refine yy52 ?_; refine yy3 ?_; refine yy3 ?_; refine awl_s rfl (s_convn rfl (by omega)) ?_; (refine zc auto_wl (Len_calls _ n h7) ?_; rintro r H' ⟨⟨z, rfl⟩, rfl⟩); (refine zc auto_wl (hpdq _ _ auto_heap) ?_; rintro r H' ⟨rfl, rfl⟩); refine yy7 ?_; rotate_left) | fail)
  exact ⟨.inr rfl, _, _, _, Ent.refl _ _, ret0 rfl, rfl, rfl⟩
end Go.Proofs.Ytbciofnejefkiaa

namespace Go.Proofs.Ytbciofnejefkiaa
open Go Go.Am Go.Proofs

theorem put_keys (k : Int) (v : AV) : ∀ (es : MI), ∀ x ∈ (es.put k v).map (·.1), x = k ∨ x ∈ es.map (·.1)
  | [], x, h => .inl (by simpa [MI.put] using h)
  | (a, u) :: es, x, h => by
    unfold MI.put at h
    split at h
    · rw [List.map_cons, List.mem_cons] at h
      rcases h with h | h
      · exact .inl h
      · exact .inr (List.mem_cons_of_mem _ h)
    · rw [List.map_cons, List.mem_cons] at h
      rcases h with h | h
      · exact .inr (by rw [h]; exact List.mem_cons_self)
      · rcases put_keys k v es x h with h | h
        · exact .inl h
        · exact .inr (List.mem_cons_of_mem _ h)
theorem put_nd {k : Int} {v : AV} : ∀ {es : MI}, (es.map (·.1)).Nodup → ((es.put k v).map (·.1)).Nodup
  | [], _ => by simp [MI.put]
  | (a, u) :: es, h => by
    rw [List.map_cons, List.nodup_cons] at h
    unfold MI.put
    split
    · next e => rw [List.map_cons, List.nodup_cons]; exact ⟨by rw [← e]; exact h.1, h.2⟩
    · next e =>
      rw [List.map_cons, List.nodup_cons]
      refine ⟨fun hx => ?_, put_nd h.2⟩
      rcases put_keys k v es a hx with hx | hx
      · exact e hx
      · exact h.1 hx
theorem HeldM.upd {es : MI} {c d : Ag.Co} (h : HeldM es c) (q v : Nat) (hd : d.held = Ag.upd c.held q (some v)) : HeldM (es.put (q : Int) (uI v)) d := ⟨fun k => by
  rw [get_put, h.get k, hd]
  unfold Ag.upd
  by_cases e : (q : Int) = k
  · subst e; simp
  · rw [if_neg e]
    by_cases k0 : 0 ≤ k
    · have : ¬ k.toNat = q := fun x => e (by omega)
      simp only [if_pos k0, if_neg this]
    · simp only [if_neg k0], put_nd h.nd⟩
def heldK (c : Ag.Co) (k : Nat) : List Nat := (List.range k).filterMap c.held
theorem heldK_succ (c : Ag.Co) (k : Nat) : heldK c (k + 1) = heldK c k ++ (c.held k).toList := by
  unfold heldK; rw [List.range_succ, List.filterMap_append]
  cases h : c.held k <;> simp [h]
theorem heldK_len (c : Ag.Co) (k : Nat) : (heldK c k).length ≤ k := by
  unfold heldK; exact Nat.le_trans (List.length_filterMap_le _ _) (by simp)
theorem settle_calls (H : AHeap) (F : Ob) (c : Ag.Co) (h : CAt H F c) (nd : NdC F) (hf : CFine c) :
    ACalls Try.prog 54 [.ptr F.o 0] H fun r H' => r = .tup [] ∧ CAt H' F c.settle ∧ ∀ p y, H p = some y → p ≠ F.o → p ≠ F.oh → H' p = some y := by
  obtain ⟨⟨off, xs, hco, hw, hx1, hx2⟩, ⟨eg, hg, hg2⟩, ⟨eh, hh, hh2⟩⟩ := h
  obtain ⟨n1, n2, n3, n4, n5, n6⟩ := nd
  have f1 := hf.me
  have f2 := hf.n
  have f3 := hf.list.len
  have f4 := hf.agr
  have hheld := hf.held
  have hQ := fun H h => quorum_calls H F.o c F.og F.oh (.vw F.ow 3 off c.wait.length) h f2
  unfold coreC at hco hQ
  -- what is held now
  obtain ⟨d, hd⟩ : ∃ d : Ag.Co, d = { c with held := Ag.upd c.held c.me (some c.list.length) } := ⟨_, rfl⟩
  have hes := hh2.upd (d := d) c.me c.list.length (by rw [hd])
  have hset : c.settle = if (heldK d c.n).length < c.quorum then d else { d with agreed := max c.agreed (min ((Ag.sort (heldK d c.n)).getD ((heldK d c.n).length - c.quorum) 0) c.list.length) } := by rw [hd]; rfl
  have hdh : ∀ q v, d.held q = some v → v < 2 ^ 64 := by
    intro q v hq
    rw [hd] at hq
    simp only [Ag.upd] at hq
    split at hq
    · cases hq; omega
    · exact (hheld q v hq).2
  have hdc : ∀ (og oh : Nat) (wv : AV), coreC d og oh wv = coreC c og oh wv := by intro og oh wv; rw [hd]; rfl
  have hdg : GotM eg d := by rw [hd]; exact ⟨hg2.get, hg2.len⟩
  have hdw : d.wait = c.wait := by rw [hd]
  have hdH := Hdq.mk hd
  clear hd hheld hh2
  refine acalls_of_aw1 Try.func54 rfl (by decide) ?_
  (first | focus (refine yy19 ?_; (apply awt_s; · exact s_move (v := .ptr _ _) rfl); (apply awt_s; · exact s_nilCheck_ptr rfl); (apply awt_s; · exact s_fieldAddr_ptr rfl); (apply awt_s; · exact s_load_cel rfl auto_heap rfl); (apply awt_s; · exact s_move (v := .ptr _ _) rfl); (apply awt_s; · exact s_nilCheck_ptr rfl); (apply awt_s; · exact s_fieldAddr_ptr rfl); (apply awt_s; · exact s_load_cel rfl auto_heap rfl); (apply awt_s; · exact s_move (v := .ptr _ _) rfl); (apply awt_s; · exact s_nilCheck_ptr rfl); (apply awt_s; · exact s_fieldAddr_ptr rfl); (apply awt_s; · exact s_load_cel rfl auto_heap rfl); (apply awt_s; · exact s_len_sls rfl); (apply awt_s; · exact s_convn rfl (by omega)); refine awt_last ?_; refine awl_mapUpdateI rfl rfl auto_mv auto_heap ?_; refine yy4 ?_; refine yy16 ?_; refine yy13 ?_; refine yy22 ?_; refine yy54 ?_; rotate_left) | fail)
  generalize eh.put (c.me : Int) (uI c.list.length) = es at *
  refine aw_own_nil 2 1 (.cel []) rfl rfl (fun oL hoL => ?_)
  refine aw_loop (fun mm R' H2 => ∃ (i oL kk : Nat), kk = (heldK d i).length ∧ (H.set F.oh (es.ao .i64)) oL = none ∧ H2 = (H.set F.oh (es.ao .i64)).set oL (.cel ((heldK d i).map uI)) ∧ R' = [(0, .ptr F.o 0), (2, .vw oL 1 0 kk), (23, mI (c.n : Int)), (24, .raw (.int .i64 (i : Int)))] ∧ i + mm = c.n) ?_ ?_
  · exact ⟨c.n, _, _, auto_ent, 0, oL, 0, rfl, hoL, rfl, rfl, by omega⟩
  clear hoL oL
  rintro mm R0 H2 ⟨i, oL, kk, rfl, hoL, rfl, rfl, hi⟩
  have hk := heldK_len d i
  have hkl : ((heldK d i).map uI).length = (heldK d i).length * 1 := by rw [List.length_map, Nat.mul_one]
  by_cases hlt : i < c.n
  · have hget := hes.get (i : Int)
    rw [if_pos (by omega), Int.toNat_natCast] at hget
    have hsn := heldK_succ d i
    cases hq : d.held i with
    | none =>
      rw [hq, Option.map_none] at hget
      rw [hq, Option.toList_none, List.append_nil] at hsn
      have v1 : (es.get (i : Int)).getD (.raw (.int .u64 0)) = .raw (.int .u64 0) := by rw [hget]; rfl
      have v2 : (es.get (i : Int)).isSome = false := by rw [hget]; rfl
      (first | focus (refine yy9 ?_; refine aw_condp rfl (fun hc => ?_) (fun hc => ?_); refine yy21 ?_; refine yy11 ?_; refine yy5 ?_; refine yy36 ?_; refine yy3 ?_; refine yy104 ?_; refine yy50 ?_; refine yy20 ?_; refine yy59 ?_; refine yy101 ?_; refine yy81 ?_; refine yy26 ?_; rotate_left; exact absurd hc auto_no) | fail)
      all_goals try (exfalso; omega)
      exact ⟨mm - 1, _, _, by omega, auto_ent, i + 1, oL, _, by rw [hsn], hoL, by rw [hsn], rfl, by omega⟩
    | some v =>
      have hv := hdh i v hq
      rw [hq, Option.map_some] at hget
      rw [hq, Option.toList_some] at hsn
      have v1 : (es.get (i : Int)).getD (.raw (.int .u64 0)) = .raw (.int .u64 (v : Int)) := by rw [hget]; rfl
      have v2 : (es.get (i : Int)).isSome = true := by rw [hget]; rfl
      (first | focus (refine yy9 ?_; refine aw_condp rfl (fun hc => ?_) (fun hc => ?_); refine yy21 ?_; refine yy11 ?_; refine yy5 ?_; refine yy36 ?_; refine yy3 ?_; refine yy104 ?_; refine yy50 ?_; refine yy20 ?_; refine yy59 ?_; refine yy101 ?_; refine aw_cond_t rfl ?_; refine aw_region ?_; refine yy52 ?_; refine yy3 ?_; refine yy88 ?_; refine za2 rfl rfl rfl (by assumption) auto_len auto_src auto_len auto_len (fun oN hoN => ?_); refine yy65 ?_; refine yy7 ?_; refine yy26 ?_; rotate_left; exact absurd hc auto_no) | fail)
      all_goals try (exfalso; omega)
      exact ⟨mm - 1, _, _, by omega, auto_entg, i + 1, oN, _, by rw [hsn, List.length_append]; rfl, hoN, by rw [hsn, List.map_append]; rfl, rfl, by omega⟩
  obtain rfl : i = c.n := by omega
  have hqd : c.quorum = c.n / 2 + 1 := rfl
  have hsl : (Ag.sort (heldK d c.n)).length = (heldK d c.n).length := (Ag.sort_perm _).length_eq
  have hsl2 : ((Ag.sort (heldK d c.n)).map uI).length = (heldK d c.n).length := by rw [List.length_map, hsl]
  have hgk : ¬ (heldK d c.n).length < c.quorum → (Ag.sort (heldK d c.n))[(heldK d c.n).length - c.quorum]? = some ((Ag.sort (heldK d c.n)).getD ((heldK d c.n).length - c.quorum) 0) := fun hn => by
    have hlt2 : (heldK d c.n).length - c.quorum < (Ag.sort (heldK d c.n)).length := by omega
    rw [List.getElem?_eq_getElem hlt2, List.getD_eq_getElem?_getD, List.getElem?_eq_getElem hlt2]; rfl
  have hbk : ∀ k, ¬ (heldK d c.n).length < c.quorum → (Ag.sort (heldK d c.n)).getD ((heldK d c.n).length - c.quorum) 0 = k → (Ag.sort (heldK d c.n))[(heldK d c.n).length - c.quorum]? = some k := fun k hn e => by rw [hgk hn, e]
  have hST := fun H h => Sort_calls H oL (heldK d c.n).length (heldK d c.n) h rfl (by omega)
  generalize (Ag.sort (heldK d c.n)).getD ((heldK d c.n).length - c.quorum) 0 = k at *
  have hbk2 := fun hn => hbk k hn rfl
  clear hgk hbk
  generalize Ag.sort (heldK d c.n) = sl at *
  by_cases hlq : (heldK d c.n).length < c.quorum
  · rw [hset, if_pos hlq]
    (first | focus (refine yy9 ?_; refine yy30 ?_; intro hc; refine yy13 ?_; refine yy52 ?_; refine yy87 ?_; refine yy25 ?_; (refine zc auto_wl (hQ _ auto_heap) ?_; rintro r H' ⟨rfl, rfl⟩); refine yy64 ?_; refine aw_condp rfl (fun hc => ?_) (fun hc => ?_); refine aw_ret ?_; refine k_seq_ret ?_; rotate_left; exact absurd hc auto_no) | fail)
    all_goals try (exfalso; omega)
    exact ⟨.inl rfl, _, _, _, Ent.refl _ _, ret0 rfl, rfl, ⟨⟨off, xs, by rw [hdc, hdw]; exact auto_heap, auto_heap, by rw [hdw]; exact hx1, by rw [hdw]; exact hx2⟩, ⟨eg, auto_heap, hdg⟩, ⟨es, auto_heap, ⟨hes.get, hes.nd⟩⟩⟩, fun p y hp h1 h2 => auto_heap⟩
  have g := hbk2 hlq
  rw [hset, if_neg hlq]
  (first | focus (refine yy9 ?_; refine yy30 ?_; intro hc; refine yy13 ?_; refine yy52 ?_; refine yy87 ?_; refine yy25 ?_; (refine zc auto_wl (hQ _ auto_heap) ?_; rintro r H' ⟨rfl, rfl⟩); refine yy64 ?_; refine yy55 ?_; intro hc; refine yy2 ?_; refine yy52 ?_; (refine zc auto_wl (hST _ auto_heap) ?_; rintro r H' ⟨rfl, rfl⟩); refine yy4 ?_; refine yy84 ?_; (apply awt_s; · exact s_move (v := .ptr _ _) rfl); (apply awt_s; · exact s_move (v := .ptr _ _) rfl); (apply awt_s; · exact s_nilCheck_ptr rfl); (apply awt_s; · exact s_fieldAddr_ptr rfl); (apply awt_s; · exact s_load_cel rfl auto_heap rfl); (apply awt_s; · exact s_move (v := .vw _ _ _ _) rfl); (apply awt_s; · exact s_move (v := .vw _ _ _ _) rfl); (apply awt_s; · exact s_len_vw rfl); (apply awt_s; · exact s_move (v := .ptr _ _) rfl); (apply awt_s; · exact s_callc auto_wl (hQ _ auto_heap)); (apply awt_s; · exact s_subn rfl rfl (by omega) (by omega)); (apply awt_s; · exact s_indexAddr_vw rfl rfl auto_len); (apply awt_s; · exact s_load_cel rfl auto_heap auto_idx); (apply awt_s; · exact s_move (v := .ptr _ _) rfl); (apply awt_s; · exact s_nilCheck_ptr rfl); (apply awt_s; · exact s_fieldAddr_ptr rfl); (apply awt_s; · exact s_load_cel rfl auto_heap rfl); (apply awt_s; · exact s_len_sls rfl); (apply awt_s; · exact s_convn rfl (by omega)); (apply awt_s; · exact s_minn rfl rfl); (apply awt_s; · exact s_convi rfl (by omega) (by omega)); (apply awt_s; · exact s_maxi rfl rfl); (apply awt_s; · exact s_nilCheck_ptr rfl); (apply awt_s; · exact s_fieldAddr_ptr rfl); refine awt_last ?_; refine yy71 ?_; rotate_left) | fail)
  have em : max (c.agreed : Int) ((min k c.list.length : Nat) : Int) = ((max c.agreed (min k c.list.length) : Nat) : Int) := by omega
  rw [em]
  have hc5 : ∀ (og oh : Nat) (wv : AV), coreC ({ d with agreed := max c.agreed (min k c.list.length) } : Ag.Co) og oh wv = (coreC c og oh wv).set 5 (mI ((max c.agreed (min k c.list.length) : Nat) : Int)) := fun og oh wv => by
    rw [hdH.out]; rfl
  exact ⟨.inr rfl, _, _, _, Ent.refl _ _, ret0 rfl, rfl, ⟨⟨off, xs, by rw [hc5]; show _ = some (AO.cel (List.set (coreC c F.og F.oh (.vw F.ow 3 off d.wait.length)) _ _)); rw [hdw]; exact auto_heap, auto_heap, by show off + d.wait.length * 3 = _; rw [hdw]; exact hx1, by show _ = d.wait.flatMap En.cells; rw [hdw]; exact hx2⟩, ⟨eg, auto_heap, ⟨hdg.get, hdg.len⟩⟩, ⟨es, auto_heap, ⟨hes.get, hes.nd⟩⟩⟩, fun p y hp h1 h2 => auto_heap⟩
end Go.Proofs.Ytbciofnejefkiaa

namespace Go.Proofs.Ytbciofnejefkiaa
open Go Go.Am Go.Proofs

theorem SAt.core {H : AHeap} {F : Ob} {s : Ag.St} (h : SAt H F s) : ∃ off, H F.o = some (.cel (coreC s.c F.og F.oh (.vw F.ow 3 off s.c.wait.length))) ∧
    ∀ c' : Ag.Co, c'.got = s.c.got → c'.n = s.c.n → c'.me = s.c.me → c'.held = s.c.held → c'.wait = s.c.wait →
      SAt (H.set F.o (.cel (coreC c' F.og F.oh (.vw F.ow 3 off s.c.wait.length)))) F { s with c := c' } ∧ Turn F.l H F F (H.set F.o (.cel (coreC c' F.og F.oh (.vw F.ow 3 off s.c.wait.length)))) := by
  obtain ⟨⟨⟨off, xs, hco, hw, hx1, hx2⟩, ⟨eg, hg, hg2⟩, ⟨eh, hh, hh2⟩⟩, hst, hsv, hsn, nd⟩ := h
  refine ⟨off, hco, fun c' e1 e2 e3 e4 e5 => ⟨⟨⟨⟨off, xs, ?_, ?_, ?_, ?_⟩, ⟨eg, ?_, ?_⟩, ⟨eh, ?_, ?_⟩⟩, ?_, ?_, ?_, nd⟩, ⟨rfl, rfl, fun p hp => .inl hp, fun p y hp hF => AHeap.get_skip (fun e => hF (by simp [Ob.l, e])) hp⟩⟩⟩
  · show _ = some (AO.cel (coreC c' F.og F.oh (.vw F.ow 3 off c'.wait.length))); rw [e5]; exact AHeap.set_self _ _ _
  · exact AHeap.get_skip nd.o_ow.symm hw
  · show off + c'.wait.length * 3 = _; rw [e5]; exact hx1
  · show _ = c'.wait.flatMap En.cells; rw [e5]; exact hx2
  · exact AHeap.get_skip nd.o_og.symm hg
  · refine ⟨fun k => by rw [hg2.get k, e1], ?_⟩
    rw [hg2.len]; unfold Ag.Co.size; rw [e1, e2]
  · exact AHeap.get_skip nd.o_oh.symm hh
  · exact ⟨fun k => by rw [hh2.get k]; show _ = if 0 ≤ k then (c'.held k.toNat).map uI else none; rw [e4], hh2.nd⟩
  · exact AHeap.get_skip nd.o_os.symm hst
  · show _ = some (AO.cel (s.save.map fun x => .bys (recB c'.me c'.n x)))
    rw [e2, e3]; exact AHeap.get_skip nd.o_ov.symm hsv
  · exact AHeap.get_skip nd.o_on.symm hsn
theorem flat_drop3 (l : List En) (k : Nat) : (l.flatMap En.cells).drop (k * 3) = (l.drop k).flatMap En.cells := flat_drop (sz := 3) (fun _ => rfl)
theorem LF.drop {l : List En} (h : LF l) (k : Nat) : LF (l.drop k) := ⟨fun e he => h.ok e (List.mem_of_mem_drop he), by have := h.len; rw [List.length_drop]; omega⟩
theorem take_calls (H : AHeap) (F : Ob) (s : Ag.St) (v : Nat) (l : List En) (h : SAt H F s) (hf : CFine s.c) (hl : s.save.length ≤ 10000) (hv : v ≤ Ag.mostView) (hL : LF l) :
    ACalls Try.prog 65 [.ptr F.o 0, .ptr F.os 0, uI v, lsE l] H fun r H' => r = .tup [] ∧ ∃ F', SAt H' F' (s.take v l) ∧ Turn F.l H F F' H' := by
  obtain ⟨off, hco, _⟩ := h.core
  have f3 := hf.list
  have f4 := hL.len
  have f5 := f3.len
  have hv2 : v < 2 ^ 64 := by unfold Ag.mostView at hv; omega
  have hB := fun H => begins_calls H l s.c.list (by omega) (by omega) (fun e he => by have := (hL.ok e he).2; omega) (fun e he => by have := (f3.ok e he).2; omega)
  have hS1 := save_calls H F s 2 v l h hf (by omega) (by decide) hv2 hL
  have hS2 : s.c.list.length < l.length → ACalls Try.prog 78 [.ptr F.o 0, .ptr F.os 0, uI 3, uI 0, .sls (l.length - s.c.list.length) (List.take ((l.length - s.c.list.length) * 3) (List.drop (s.c.list.length * 3) (l.flatMap En.cells)))] H fun r H' => r = .tup [] ∧ ∃ F', SAt H' F' (s.put 3 0 (l.drop s.c.list.length)) ∧ Turn F.l H F F' H' := fun hlt => by
    have h1 := save_calls H F s 3 0 (l.drop s.c.list.length) h hf (by omega) (by decide) (by decide) (hL.drop _)
    have e1 : (l.drop s.c.list.length).length = l.length - s.c.list.length := List.length_drop ..
    unfold lsE at h1
    rw [e1] at h1
    rw [flat_drop3, List.take_of_length_le (by rw [flat_len (sz := 3) (fun _ => rfl), e1]; exact Nat.le_refl _)]
    exact h1
  unfold coreC at hco
  have hbl : Ag.begins l s.c.list = true → s.c.list.length ≤ l.length := fun h => by simp only [Ag.begins, Bool.and_eq_true, decide_eq_true_eq] at h; exact h.1
  refine acalls_of_aw4 Try.func65 rfl (by decide) ?_
  have hid := Turn.refl F.l H F
  by_cases hlv : s.c.last = v
  · cases hbb : Ag.begins l s.c.list with
    | true =>
      have hle := hbl hbb
      rw [hbb] at hB
      by_cases hlt : s.c.list.length < l.length
      · have hS3 := hS2 hlt
        (first | focus (refine yy13 ?_; refine yy22 ?_; refine yy3 ?_; refine yy27 ?_; refine yy3 ?_; refine zg1 rfl rfl rfl (fun hc => ?_) (fun hc => ?_); refine yy46 ?_; refine yy6 ?_; refine yy33 ?_; refine yy83 ?_; refine yy34 ?_; (refine zc auto_wl (hB _) ?_; rintro r H' ⟨rfl, rfl⟩); refine yy45 ?_; refine yy35 ?_; refine yy46 ?_; refine yy22 ?_; refine yy42 ?_; refine awl_s rfl (s_slice_sls rfl auto_bnd auto_bnd auto_len auto_len) ?_; refine awl_s rfl (s_assign (v := .sls _ _) rfl) ?_; refine yy68 ?_; refine yy53 ?_; refine yy31 ?_; refine yy4 ?_; refine aw_condp rfl (fun hc => ?_) (fun hc => ?_); refine yy40 ?_; refine yy25 ?_; refine yy46 ?_; (refine zc auto_wl (hS3) ?_; rintro r H' ⟨rfl, F2, b1, b2⟩); refine yy4 ?_; rotate_left; exact absurd hc auto_no; exact absurd hc auto_no) | fail)
        have ht : s.take v l = { s.put 3 0 (l.drop s.c.list.length) with c := { s.c with last := v, list := l } } := by unfold Ag.St.take; dsimp only; rw [if_pos ⟨hlv, hbb⟩, if_pos hlt]; rfl
        rw [ht]
        obtain ⟨off2, q1, q2⟩ := b1.core
        obtain ⟨a1, a2⟩ := q2 { s.c with last := v, list := l } rfl rfl rfl rfl rfl
        rw [b2.o] at q1 a1 a2
        unfold coreC at q1
        (first | focus (refine yy40 ?_; refine yy25 ?_; refine yy3 ?_; refine yy46 ?_; refine yy48 ?_; refine yy58 ?_; refine yy48 ?_; refine yy67 ?_; refine yy7 ?_; rotate_left) | fail)
        exact ⟨.inr rfl, _, _, _, Ent.refl _ _, ret0 rfl, rfl, F2, a1, b2.trans a2⟩
      · (first | focus (refine yy13 ?_; refine yy22 ?_; refine yy3 ?_; refine yy27 ?_; refine yy3 ?_; refine zg1 rfl rfl rfl (fun hc => ?_) (fun hc => ?_); refine yy46 ?_; refine yy6 ?_; refine yy33 ?_; refine yy83 ?_; refine yy34 ?_; (refine zc auto_wl (hB _) ?_; rintro r H' ⟨rfl, rfl⟩); refine yy45 ?_; refine yy35 ?_; refine yy46 ?_; refine yy22 ?_; refine yy42 ?_; refine awl_s rfl (s_slice_sls rfl auto_bnd auto_bnd auto_len auto_len) ?_; refine awl_s rfl (s_assign (v := .sls _ _) rfl) ?_; refine yy68 ?_; refine yy53 ?_; refine yy31 ?_; refine yy4 ?_; refine yy55 ?_; intro hc; rotate_left; exact absurd hc auto_no) | fail)
        have ht : s.take v l = { s with c := { s.c with last := v, list := l } } := by unfold Ag.St.take; dsimp only; rw [if_pos ⟨hlv, hbb⟩, if_neg hlt]
        rw [ht]
        obtain ⟨off2, q1, q2⟩ := h.core
        obtain ⟨a1, a2⟩ := q2 { s.c with last := v, list := l } rfl rfl rfl rfl rfl
        rw [hid.o] at q1 a1 a2
        unfold coreC at q1
        (first | focus (refine yy40 ?_; refine yy25 ?_; refine yy3 ?_; refine yy46 ?_; refine yy48 ?_; refine yy58 ?_; refine yy48 ?_; refine yy67 ?_; refine yy7 ?_; rotate_left) | fail)
        exact ⟨.inr rfl, _, _, _, Ent.refl _ _, ret0 rfl, rfl, F, a1, hid.trans a2⟩
    | false =>
      rw [hbb] at hB
      (first | focus (refine yy13 ?_; refine yy22 ?_; refine yy3 ?_; refine yy27 ?_; refine yy3 ?_; refine zg1 rfl rfl rfl (fun hc => ?_) (fun hc => ?_); refine yy46 ?_; refine yy6 ?_; refine yy33 ?_; refine yy83 ?_; refine yy34 ?_; (refine zc auto_wl (hB _) ?_; rintro r H' ⟨rfl, rfl⟩); refine yy45 ?_; refine aw_cond_f rfl ?_; refine yy40 ?_; refine yy25 ?_; refine yy3 ?_; refine yy46 ?_; (refine zc auto_wl (hS1) ?_; rintro r H' ⟨rfl, F2, b1, b2⟩); refine yy4 ?_; rotate_left; exact absurd hc auto_no) | fail)
      have ht : s.take v l = { s.put 2 v l with c := { s.c with last := v, list := l } } := by unfold Ag.St.take; dsimp only; rw [if_neg (fun x => by rw [hbb] at x; cases x.2)]; rfl
      rw [ht]
      obtain ⟨off2, q1, q2⟩ := b1.core
      obtain ⟨a1, a2⟩ := q2 { s.c with last := v, list := l } rfl rfl rfl rfl rfl
      rw [b2.o] at q1 a1 a2
      unfold coreC at q1
      (first | focus (refine yy40 ?_; refine yy25 ?_; refine yy3 ?_; refine yy46 ?_; refine yy48 ?_; refine yy58 ?_; refine yy48 ?_; refine yy67 ?_; refine yy7 ?_; rotate_left) | fail)
      exact ⟨.inr rfl, _, _, _, Ent.refl _ _, ret0 rfl, rfl, F2, a1, b2.trans a2⟩
  · (first | focus (refine yy13 ?_; refine yy22 ?_; refine yy3 ?_; refine yy27 ?_; refine yy3 ?_; refine zg1 rfl rfl rfl (fun hc => ?_) (fun hc => ?_); exact absurd hc auto_no; refine yy37 ?_; refine yy32 ?_; refine yy51 ?_; refine aw_cond_f rfl ?_; refine yy40 ?_; refine yy25 ?_; refine yy3 ?_; refine yy46 ?_; (refine zc auto_wl (hS1) ?_; rintro r H' ⟨rfl, F2, b1, b2⟩); refine yy4 ?_; rotate_left) | fail)
    have ht : s.take v l = { s.put 2 v l with c := { s.c with last := v, list := l } } := by unfold Ag.St.take; dsimp only; rw [if_neg (fun x => hlv x.1)]; rfl
    rw [ht]
    obtain ⟨off2, q1, q2⟩ := b1.core
    obtain ⟨a1, a2⟩ := q2 { s.c with last := v, list := l } rfl rfl rfl rfl rfl
    rw [b2.o] at q1 a1 a2
    unfold coreC at q1
    (first | focus (refine yy40 ?_; refine yy25 ?_; refine yy3 ?_; refine yy46 ?_; refine yy48 ?_; refine yy58 ?_; refine yy48 ?_; refine yy67 ?_; refine yy7 ?_; rotate_left) | fail)
    exact ⟨.inr rfl, _, _, _, Ent.refl _ _, ret0 rfl, rfl, F2, a1, b2.trans a2⟩
end Go.Proofs.Ytbciofnejefkiaa

namespace Go.Proofs.Ytbciofnejefkiaa
open Go Go.Am Go.Proofs

theorem TurnC.refl (H : AHeap) (F : Ob) (nd : NdC F) : TurnC H F F H := ⟨rfl, rfl, rfl, rfl, fun p hp => .inl hp, fun p y hp _ => hp, nd⟩
theorem wanted_calls (H : AHeap) (F : Ob) (c : Ag.Co) (e : En) (h : CAt H F c) (nd : NdC F) (hf : CFine c) (hr : e.row.length ≤ 1000000) :
    ACalls Try.prog 36 [.ptr F.o 0, .agg e.cells] H fun r H' => r = bB (c.wanted e).2 ∧ ∃ F', CAt H' F' (c.wanted e).1 ∧ TurnC H F F' H' := by
  have h0 := h
  have nd0 := nd
  obtain ⟨⟨off, xs, hco, hw, hx1, hx2⟩, ⟨eg, hg, hg2⟩, ⟨eh, hh, hh2⟩⟩ := h
  obtain ⟨n1, n2, n3, n4, n5, n6⟩ := nd
  have f1 := hf.list.len
  have f2 := hf.wait.len
  have hM := fun H => may_calls H e (by omega)
  have hHL := fun H => has_calls H c.list e.id (by omega)
  have hHW := fun H h => has_vw H F.ow off xs c.wait e.id (by omega) h hx1 hx2
  have hC := fun H => Copy_calls H e hr
  unfold coreC at hco
  refine acalls_of_aw2 Try.func36 rfl (by decide) ?_
  cases hm : Ag.may e with
  | false =>
    have hwant : c.wanted e = (c, false) := by unfold Ag.Co.wanted; rw [if_pos (.inl hm)]
    rw [hm] at hM
    (first | focus (refine yy2 ?_; refine zb1 rfl rfl rfl (fun oN hoN => ?_); refine yy5 ?_; refine aw_seq ?_; refine yy19 ?_; (apply awt_s; · exact s_load_agg rfl auto_heap rfl rfl (by first | decide | exact Nat.le_of_ble_eq_true rfl)); (apply awt_s; · exact s_callc auto_wl (hM _)); (apply awt_s; · exact s_notb rfl); (apply awt_s; · exact s_move (v := .raw _) rfl); refine yy18 ?_; refine yy78 ?_; refine zt4 rfl rfl ?_; (apply awt_s; · exact s_pick_t (v := .raw _) rfl rfl); (apply awt_s; · exact s_move (v := .raw _) rfl); refine yy18 ?_; refine yy78 ?_; refine zt4 rfl rfl ?_; (apply awt_s; · exact s_pick_t (v := .raw _) rfl rfl); refine yy12 ?_; refine yy35 ?_; refine yy23 ?_; rotate_left) | fail)
    exact ⟨.inl rfl, _, _, _, Ent.gc (H0 := H) auto_sub, ret1 rfl rfl, by rw [hwant]; rfl, F, by rw [hwant]; exact h0, TurnC.refl H F nd0⟩
  | true =>
    rw [hm] at hM
    cases hli : Ag.hasId c.list e.id with
    | true =>
      have hwant : c.wanted e = (c, false) := by unfold Ag.Co.wanted; rw [if_pos (.inr (.inl hli))]
      rw [hli] at hHL
      (first | focus (refine yy2 ?_; refine zb1 rfl rfl rfl (fun oN hoN => ?_); refine yy5 ?_; refine aw_seq ?_; refine yy19 ?_; (apply awt_s; · exact s_load_agg rfl auto_heap rfl rfl (by first | decide | exact Nat.le_of_ble_eq_true rfl)); (apply awt_s; · exact s_callc auto_wl (hM _)); (apply awt_s; · exact s_notb rfl); (apply awt_s; · exact s_move (v := .raw _) rfl); refine yy1 ?_; (apply awt_s; · exact s_move (v := .ptr _ _) rfl); refine yy1 ?_; (apply awt_s; · exact s_nilCheck_ptr rfl); refine yy1 ?_; (apply awt_s; · exact s_fieldAddr_ptr rfl); refine yy1 ?_; (apply awt_s; · exact s_load_cel rfl auto_heap rfl); refine yy1 ?_; (apply awt_s; · exact s_fieldAddr_ptr rfl); refine yy1 ?_; (apply awt_s; · exact s_load_cel rfl auto_heap rfl); refine yy1 ?_; (apply awt_s; · exact s_callc auto_wl (hHL _)); (apply awt_s; · exact s_pick_f (v := .raw _) rfl rfl); (apply awt_s; · exact s_move (v := .raw _) rfl); refine yy18 ?_; refine yy78 ?_; refine zt4 rfl rfl ?_; (apply awt_s; · exact s_pick_t (v := .raw _) rfl rfl); refine yy12 ?_; refine yy35 ?_; refine yy23 ?_; rotate_left) | fail)
      exact ⟨.inl rfl, _, _, _, Ent.gc (H0 := H) auto_sub, ret1 rfl rfl, by rw [hwant]; rfl, F, by rw [hwant]; exact h0, TurnC.refl H F nd0⟩
    | false =>
      rw [hli] at hHL
      cases hwi : Ag.hasId c.wait e.id with
      | true =>
        have hwant : c.wanted e = (c, false) := by unfold Ag.Co.wanted; rw [if_pos (.inr (.inr hwi))]
        rw [hwi] at hHW
        (first | focus (refine yy2 ?_; refine zb1 rfl rfl rfl (fun oN hoN => ?_); refine yy5 ?_; refine aw_seq ?_; refine yy19 ?_; (apply awt_s; · exact s_load_agg rfl auto_heap rfl rfl (by first | decide | exact Nat.le_of_ble_eq_true rfl)); (apply awt_s; · exact s_callc auto_wl (hM _)); (apply awt_s; · exact s_notb rfl); (apply awt_s; · exact s_move (v := .raw _) rfl); refine yy1 ?_; (apply awt_s; · exact s_move (v := .ptr _ _) rfl); refine yy1 ?_; (apply awt_s; · exact s_nilCheck_ptr rfl); refine yy1 ?_; (apply awt_s; · exact s_fieldAddr_ptr rfl); refine yy1 ?_; (apply awt_s; · exact s_load_cel rfl auto_heap rfl); refine yy1 ?_; (apply awt_s; · exact s_fieldAddr_ptr rfl); refine yy1 ?_; (apply awt_s; · exact s_load_cel rfl auto_heap rfl); refine yy1 ?_; (apply awt_s; · exact s_callc auto_wl (hHL _)); (apply awt_s; · exact s_pick_f (v := .raw _) rfl rfl); (apply awt_s; · exact s_move (v := .raw _) rfl); refine yy1 ?_; (apply awt_s; · exact s_move (v := .ptr _ _) rfl); refine yy1 ?_; (apply awt_s; · exact s_nilCheck_ptr rfl); refine yy1 ?_; (apply awt_s; · exact s_fieldAddr_ptr rfl); refine yy1 ?_; (apply awt_s; · exact s_load_cel rfl auto_heap rfl); refine yy1 ?_; (apply awt_s; · exact s_fieldAddr_ptr rfl); refine yy1 ?_; (apply awt_s; · exact s_load_cel rfl auto_heap rfl); refine yy1 ?_; (apply awt_s; · exact s_callc auto_wl (hHW _ auto_heap)); (apply awt_s; · exact s_pick_f (v := .raw _) rfl rfl); refine yy12 ?_; refine yy35 ?_; refine yy23 ?_; rotate_left) | fail)
        exact ⟨.inl rfl, _, _, _, Ent.gc (H0 := H) auto_sub, ret1 rfl rfl, by rw [hwant]; rfl, F, by rw [hwant]; exact h0, TurnC.refl H F nd0⟩
      | false =>
        rw [hwi] at hHW
        by_cases h200 : c.wait.length = 200
        · have hdr : xs.drop (off + 1 * 3) = (c.wait.drop 1).flatMap En.cells := by
            rw [← List.drop_drop, hx2, flat_drop3]
          have hwant : c.wanted e = ({ c with wait := c.wait.drop 1 ++ [e] }, c.lead) := by unfold Ag.Co.wanted; rw [if_neg (by rw [hm, hli, hwi]; simp)]; simp [h200]
          have hlen : (c.wait.drop 1 ++ [e]).length = c.wait.length - 1 + 1 := by rw [List.length_append]; rw [List.length_drop]; rfl
          have hcw : (c.wait.drop 1 ++ [e]).flatMap En.cells = xs.drop (off + 1 * 3) ++ e.cells := by rw [List.flatMap_append, ← hdr]; simp
          rw [hwant]
          (first | focus (refine yy2 ?_; refine zb1 rfl rfl rfl (fun oN hoN => ?_); refine yy5 ?_; refine aw_seq ?_; refine yy19 ?_; (apply awt_s; · exact s_load_agg rfl auto_heap rfl rfl (by first | decide | exact Nat.le_of_ble_eq_true rfl)); (apply awt_s; · exact s_callc auto_wl (hM _)); (apply awt_s; · exact s_notb rfl); (apply awt_s; · exact s_move (v := .raw _) rfl); refine yy1 ?_; (apply awt_s; · exact s_move (v := .ptr _ _) rfl); refine yy1 ?_; (apply awt_s; · exact s_nilCheck_ptr rfl); refine yy1 ?_; (apply awt_s; · exact s_fieldAddr_ptr rfl); refine yy1 ?_; (apply awt_s; · exact s_load_cel rfl auto_heap rfl); refine yy1 ?_; (apply awt_s; · exact s_fieldAddr_ptr rfl); refine yy1 ?_; (apply awt_s; · exact s_load_cel rfl auto_heap rfl); refine yy1 ?_; (apply awt_s; · exact s_callc auto_wl (hHL _)); (apply awt_s; · exact s_pick_f (v := .raw _) rfl rfl); (apply awt_s; · exact s_move (v := .raw _) rfl); refine yy1 ?_; (apply awt_s; · exact s_move (v := .ptr _ _) rfl); refine yy1 ?_; (apply awt_s; · exact s_nilCheck_ptr rfl); refine yy1 ?_; (apply awt_s; · exact s_fieldAddr_ptr rfl); refine yy1 ?_; (apply awt_s; · exact s_load_cel rfl auto_heap rfl); refine yy1 ?_; (apply awt_s; · exact s_fieldAddr_ptr rfl); refine yy1 ?_; (apply awt_s; · exact s_load_cel rfl auto_heap rfl); refine yy1 ?_; (apply awt_s; · exact s_callc auto_wl (hHW _ auto_heap)); (apply awt_s; · exact s_pick_f (v := .raw _) rfl rfl); refine yy12 ?_; refine yy73 ?_; refine yy13 ?_; refine yy22 ?_; refine yy87 ?_; refine yy27 ?_; refine yy4 ?_; refine aw_condp rfl (fun hc => ?_) (fun hc => ?_); refine yy40 ?_; refine yy22 ?_; refine awl_s rfl (s_slice_vw rfl auto_bnd auto_bnd auto_len auto_len) ?_; refine yy48 ?_; refine yy58 ?_; refine yy4 ?_; refine aw_seq ?_; refine aw_draw2 false auto_kr auto_dk auto_dk ?_; (apply awm_s; · (intro H1; exact s_move (v := .ptr _ _) rfl)); (apply awm_s; · (intro H1; exact s_move (v := .ptr _ _) rfl)); (apply awm_s; · (intro H1; exact s_nilCheck_ptr rfl)); (apply awm_s; · (intro H1; exact s_fieldAddr_ptr rfl)); (apply awm_e auto_dk; (· exact s_load_cel rfl auto_heap rfl)); (apply awm_e auto_dk; (· exact s_load_agg rfl auto_heap rfl rfl (by first | decide | exact Nat.le_of_ble_eq_true rfl))); (apply awm_s; · (intro H1; exact s_callc auto_wl (hC _))); (apply awm_s; · (intro H1; exact s_buildSlicev (by ((repeat' (first | exact eqL_nil | apply eqL_cons)); all_goals (first | exact (rfl : _ = AV.raw _) | exact (rfl : _ = AV.bys _) | exact (rfl : _ = AV.vw _ _ _ _) | exact (rfl : _ = AV.ptr _ _) | exact (rfl : _ = AV.str _) | exact (rfl : _ = AV.sls _ _) | exact (rfl : _ = AV.tup _) | exact (rfl : _ = AV.agg _) | exact (rfl : _ = AV.pce _ _) | exact (rfl : _ = AV.emp) | exact (rfl : _ = AV.bysx _) | exact (rfl : _ = AV.slsx _ _) | exact (rfl : _ = AV.mp _) | exact (rfl : _ = AV.fnc _ _ _) | exact (rfl : _ = AV.pby _ _) | exact (rfl : _ = AV.ifc _ _)))) (by rfl) (by rfl) (by rfl) (by ((repeat' (first | exact eqL_nil | apply eqL_cons)); all_goals (first | exact (rfl : _ = AV.raw _) | exact (rfl : _ = AV.bys _) | exact (rfl : _ = AV.vw _ _ _ _) | exact (rfl : _ = AV.ptr _ _) | exact (rfl : _ = AV.str _) | exact (rfl : _ = AV.sls _ _) | exact (rfl : _ = AV.tup _) | exact (rfl : _ = AV.agg _) | exact (rfl : _ = AV.pce _ _) | exact (rfl : _ = AV.emp) | exact (rfl : _ = AV.bysx _) | exact (rfl : _ = AV.slsx _ _) | exact (rfl : _ = AV.mp _) | exact (rfl : _ = AV.fnc _ _ _) | exact (rfl : _ = AV.pby _ _) | exact (rfl : _ = AV.ifc _ _)))) (by decide))); refine awm_b ?_; (apply awm_s; · (intro H1; exact s_nilCheck_ptr rfl)); (apply awm_s; · (intro H1; exact s_fieldAddr_ptr rfl)); refine awm_b0 ?_; refine awm_nil ?_; refine awb_cons (fun Rx K1 hK1x => ?_); refine awl_app_celo rfl rfl rfl auto_heap auto_len auto_src auto_len auto_len (fun oN hoN => ?_); refine yy7 ?_; (refine hK1x _ _ ?_; clear hK1x K1 Rx); refine awb_cons0 (fun Rx K1 hK1x => ?_); refine yy71 ?_; (refine hK1x _ ?_; clear hK1x K1 Rx); refine awb_nil ?_; refine yy49 ?_; refine yy36 ?_; refine yy8 ?_; rotate_left; exact absurd hc auto_no) | fail)
          all_goals try (exfalso; omega)
          refine ⟨.inl rfl, _, _, _, Ent.refl _ _, ret1 rfl rfl, rfl, { F with ow := oN }, ⟨⟨0, _, ?_, AHeap.get_skip auto_nq (AHeap.set_self _ _ _), ?_, ?_⟩, ⟨eg, auto_heap, ⟨hg2.get, hg2.len⟩⟩, ⟨eh, auto_heap, ⟨hh2.get, hh2.nd⟩⟩⟩, ⟨rfl, rfl, rfl, rfl, fun p hp => ?_, fun p y hp hF => ?_, ?_⟩⟩
          · show _ = some (AO.cel (coreC c F.og F.oh (.vw oN 3 0 (c.wait.drop 1 ++ [e]).length)))
            rw [hlen]; exact auto_heap
          · show 0 + (c.wait.drop 1 ++ [e]).length * 3 = _
            rw [hlen, List.length_append, List.length_drop]; simp only [List.length_cons, List.length_nil]; omega
          · rw [List.drop_zero]; exact hcw.symm
          · simp only [Ob.c, List.mem_cons, List.not_mem_nil, or_false] at hp ⊢
            rcases hp with h | h | h | h
            · exact .inl (.inl h)
            · exact .inl (.inr (.inl h))
            · exact .inl (.inr (.inr (.inl h)))
            · exact .inr (by rw [h]; exact auto_nn)
          · simp only [Ob.c, List.mem_cons, List.not_mem_nil, or_false, not_or] at hF
            obtain ⟨k1, k2, k3, k4⟩ := hF
            exact auto_heap
          · constructor <;> exact auto_nq
        · have hwant : c.wanted e = ({ c with wait := c.wait ++ [e] }, c.lead) := by unfold Ag.Co.wanted; rw [if_neg (by rw [hm, hli, hwi]; simp)]; simp [h200]
          have hlen : (c.wait ++ [e]).length = c.wait.length + 1 := by rw [List.length_append]; rfl
          have hcw : (c.wait ++ [e]).flatMap En.cells = xs.drop (off) ++ e.cells := by rw [List.flatMap_append, ← hx2]; simp
          rw [hwant]
          (first | focus (refine yy2 ?_; refine zb1 rfl rfl rfl (fun oN hoN => ?_); refine yy5 ?_; refine aw_seq ?_; refine yy19 ?_; (apply awt_s; · exact s_load_agg rfl auto_heap rfl rfl (by first | decide | exact Nat.le_of_ble_eq_true rfl)); (apply awt_s; · exact s_callc auto_wl (hM _)); (apply awt_s; · exact s_notb rfl); (apply awt_s; · exact s_move (v := .raw _) rfl); refine yy1 ?_; (apply awt_s; · exact s_move (v := .ptr _ _) rfl); refine yy1 ?_; (apply awt_s; · exact s_nilCheck_ptr rfl); refine yy1 ?_; (apply awt_s; · exact s_fieldAddr_ptr rfl); refine yy1 ?_; (apply awt_s; · exact s_load_cel rfl auto_heap rfl); refine yy1 ?_; (apply awt_s; · exact s_fieldAddr_ptr rfl); refine yy1 ?_; (apply awt_s; · exact s_load_cel rfl auto_heap rfl); refine yy1 ?_; (apply awt_s; · exact s_callc auto_wl (hHL _)); (apply awt_s; · exact s_pick_f (v := .raw _) rfl rfl); (apply awt_s; · exact s_move (v := .raw _) rfl); refine yy1 ?_; (apply awt_s; · exact s_move (v := .ptr _ _) rfl); refine yy1 ?_; (apply awt_s; · exact s_nilCheck_ptr rfl); refine yy1 ?_; (apply awt_s; · exact s_fieldAddr_ptr rfl); refine yy1 ?_; (apply awt_s; · exact s_load_cel rfl auto_heap rfl); refine yy1 ?_; (apply awt_s; · exact s_fieldAddr_ptr rfl); refine yy1 ?_; (apply awt_s; · exact s_load_cel rfl auto_heap rfl); refine yy1 ?_; (apply awt_s; · exact s_callc auto_wl (hHW _ auto_heap)); (apply awt_s; · exact s_pick_f (v := .raw _) rfl rfl); refine yy12 ?_; refine yy73 ?_; refine yy13 ?_; refine yy22 ?_; refine yy87 ?_; refine yy27 ?_; refine yy4 ?_; refine yy38 ?_; intro hc; refine aw_skip ?_; refine k_seq_normal ?_; refine aw_seq ?_; refine aw_draw2 false auto_kr auto_dk auto_dk ?_; (apply awm_s; · (intro H1; exact s_move (v := .ptr _ _) rfl)); (apply awm_s; · (intro H1; exact s_move (v := .ptr _ _) rfl)); (apply awm_s; · (intro H1; exact s_nilCheck_ptr rfl)); (apply awm_s; · (intro H1; exact s_fieldAddr_ptr rfl)); (apply awm_e auto_dk; (· exact s_load_cel rfl auto_heap rfl)); (apply awm_e auto_dk; (· exact s_load_agg rfl auto_heap rfl rfl (by first | decide | exact Nat.le_of_ble_eq_true rfl))); (apply awm_s; · (intro H1; exact s_callc auto_wl (hC _))); (apply awm_s; · (intro H1; exact s_buildSlicev (by ((repeat' (first | exact eqL_nil | apply eqL_cons)); all_goals (first | exact (rfl : _ = AV.raw _) | exact (rfl : _ = AV.bys _) | exact (rfl : _ = AV.vw _ _ _ _) | exact (rfl : _ = AV.ptr _ _) | exact (rfl : _ = AV.str _) | exact (rfl : _ = AV.sls _ _) | exact (rfl : _ = AV.tup _) | exact (rfl : _ = AV.agg _) | exact (rfl : _ = AV.pce _ _) | exact (rfl : _ = AV.emp) | exact (rfl : _ = AV.bysx _) | exact (rfl : _ = AV.slsx _ _) | exact (rfl : _ = AV.mp _) | exact (rfl : _ = AV.fnc _ _ _) | exact (rfl : _ = AV.pby _ _) | exact (rfl : _ = AV.ifc _ _)))) (by rfl) (by rfl) (by rfl) (by ((repeat' (first | exact eqL_nil | apply eqL_cons)); all_goals (first | exact (rfl : _ = AV.raw _) | exact (rfl : _ = AV.bys _) | exact (rfl : _ = AV.vw _ _ _ _) | exact (rfl : _ = AV.ptr _ _) | exact (rfl : _ = AV.str _) | exact (rfl : _ = AV.sls _ _) | exact (rfl : _ = AV.tup _) | exact (rfl : _ = AV.agg _) | exact (rfl : _ = AV.pce _ _) | exact (rfl : _ = AV.emp) | exact (rfl : _ = AV.bysx _) | exact (rfl : _ = AV.slsx _ _) | exact (rfl : _ = AV.mp _) | exact (rfl : _ = AV.fnc _ _ _) | exact (rfl : _ = AV.pby _ _) | exact (rfl : _ = AV.ifc _ _)))) (by decide))); refine awm_b ?_; (apply awm_s; · (intro H1; exact s_nilCheck_ptr rfl)); (apply awm_s; · (intro H1; exact s_fieldAddr_ptr rfl)); refine awm_b0 ?_; refine awm_nil ?_; refine awb_cons (fun Rx K1 hK1x => ?_); refine awl_app_celo rfl rfl rfl auto_heap auto_len auto_src auto_len auto_len (fun oN hoN => ?_); refine yy7 ?_; (refine hK1x _ _ ?_; clear hK1x K1 Rx); refine awb_cons0 (fun Rx K1 hK1x => ?_); refine yy71 ?_; (refine hK1x _ ?_; clear hK1x K1 Rx); refine awb_nil ?_; refine yy49 ?_; refine yy36 ?_; refine yy8 ?_; rotate_left) | fail)
          all_goals try (exfalso; omega)
          refine ⟨.inl rfl, _, _, _, Ent.refl _ _, ret1 rfl rfl, rfl, { F with ow := oN }, ⟨⟨0, _, ?_, AHeap.get_skip auto_nq (AHeap.set_self _ _ _), ?_, ?_⟩, ⟨eg, auto_heap, ⟨hg2.get, hg2.len⟩⟩, ⟨eh, auto_heap, ⟨hh2.get, hh2.nd⟩⟩⟩, ⟨rfl, rfl, rfl, rfl, fun p hp => ?_, fun p y hp hF => ?_, ?_⟩⟩
          · show _ = some (AO.cel (coreC c F.og F.oh (.vw oN 3 0 (c.wait ++ [e]).length)))
            rw [hlen]; exact auto_heap
          · show 0 + (c.wait ++ [e]).length * 3 = _
            rw [hlen, List.length_append, List.length_drop]; simp only [List.length_cons, List.length_nil]; omega
          · rw [List.drop_zero]; exact hcw.symm
          · simp only [Ob.c, List.mem_cons, List.not_mem_nil, or_false] at hp ⊢
            rcases hp with h | h | h | h
            · exact .inl (.inl h)
            · exact .inl (.inr (.inl h))
            · exact .inl (.inr (.inr (.inl h)))
            · exact .inr (by rw [h]; exact auto_nn)
          · simp only [Ob.c, List.mem_cons, List.not_mem_nil, or_false, not_or] at hF
            obtain ⟨k1, k2, k3, k4⟩ := hF
            exact auto_heap
          · constructor <;> exact auto_nq
end Go.Proofs.Ytbciofnejefkiaa

namespace Go.Proofs.Ytbciofnejefkiaa
open Go Go.Am Go.Proofs

theorem Clip_calls (H : AHeap) (l : List En) (hl : l.length ≤ 1000000) : ACalls Try.prog 64 [lsE l] H fun r H' => r = .slsx l.length (l.flatMap En.cells) ∧ H' = H := by
  refine acalls_of_aw1 Try.func64 rfl (by decide) ?_
  (first | focus (refine yy16 ?_; refine yy2 ?_; refine yy46 ?_; refine yy53 ?_; refine yy53 ?_; refine awl_s rfl (s_clip_sls rfl rfl rfl) ?_; refine awl_s rfl (s_assign (v := .slsx _ _) rfl) ?_; refine yy28 ?_; rotate_left) | fail)
  exact ⟨.inl rfl, _, _, _, Ent.refl _ _, ret1 rfl rfl, rfl, rfl⟩
theorem grown_succ {l w : List En} {i : Nat} {e : En} (h : w[i]? = some e) : Ag.grown l (w.take (i + 1)) = if (Ag.grown l (w.take i)).length < 200 ∧ Ag.hasId (Ag.grown l (w.take i)) e.id = false then Ag.grown l (w.take i) ++ [e] else Ag.grown l (w.take i) := by
  rw [List.take_add_one, h]
  unfold Ag.grown
  rw [List.foldl_append]; rfl
theorem grown_LF {l : List En} (hl : LF l) : ∀ {w : List En}, (∀ e ∈ w, e.Ok ∧ e.row.length ≤ 16) → LF (Ag.grown l w) ∧ l.length ≤ (Ag.grown l w).length := by
  intro w
  induction w generalizing l with
  | nil => intro _; exact ⟨hl, Nat.le_refl _⟩
  | cons e w ih =>
    intro hw
    have hw' : ∀ x ∈ w, x.Ok ∧ x.row.length ≤ 16 := fun x hx => hw x (List.mem_cons_of_mem _ hx)
    unfold Ag.grown
    simp only [List.foldl_cons]
    split
    · next hc =>
      have h1 : LF (l ++ [e]) := ⟨fun x hx => by
        rcases List.mem_append.1 hx with hx | hx
        · exact hl.ok x hx
        · rw [List.mem_singleton.1 hx]; exact hw e (List.mem_cons_self), by rw [List.length_append, List.length_singleton]; omega⟩
      obtain ⟨h2, h3⟩ := ih h1 hw'
      exact ⟨h2, by rw [List.length_append] at h3; exact Nat.le_trans (Nat.le_add_right _ _) h3⟩
    · exact ih hl hw'
theorem Nd.c {F : Ob} (n : Nd F) : NdC F := ⟨n.o_og, n.o_oh, n.o_ow, n.og_oh, n.og_ow, n.oh_ow⟩
theorem settle_same2 (c : Ag.Co) : c.settle.me = c.me ∧ c.settle.n = c.n := by
  unfold Ag.Co.settle; dsimp only
  split <;> exact ⟨rfl, rfl⟩
theorem settle_S (H : AHeap) (F : Ob) (s : Ag.St) (h : SAt H F s) (hf : CFine s.c) :
    ACalls Try.prog 54 [.ptr F.o 0] H fun r H' => r = .tup [] ∧ SAt H' F { s with c := s.c.settle } ∧ Turn F.l H F F H' :=
  (settle_calls H F s.c h.c h.nd.c hf).mono fun r H' ⟨h1, h2, h3⟩ => by
    have t : TurnC H F F H' := ⟨rfl, rfl, rfl, rfl, fun p hp => .inl hp, fun p y hp hF => h3 p y hp (fun e => hF (by simp [Ob.c, e])) (fun e => hF (by simp [Ob.c, e])), h.nd.c⟩
    obtain ⟨a, b⟩ := h.turn h2 t (settle_same2 s.c).1 (settle_same2 s.c).2
    exact ⟨h1, a, b⟩
theorem CFine.settle {c : Ag.Co} (h : CFine c) : CFine c.settle := by
  have h200 := h.list.len
  have hh : ∀ q v, Ag.upd c.held c.me (some c.list.length) q = some v → q < c.n ∧ v < 2 ^ 64 := by
    intro q v hq
    unfold Ag.upd at hq
    split at hq
    · next e => cases hq; exact ⟨by rw [e]; exact h.me, by omega⟩
    · exact h.held q v hq
  unfold Ag.Co.settle; dsimp only
  split
  · exact ⟨h.me, h.n, h.view, h.last, h.list, h.agr, h.wait, h.quiet, h.got, hh⟩
  · refine ⟨h.me, h.n, h.view, h.last, h.list, ?_, h.wait, h.quiet, h.got, hh⟩
    have := h.agr
    show max c.agreed (min _ c.list.length) ≤ c.list.length
    omega
theorem CFine.take {c : Ag.Co} (h : CFine c) {v : Nat} (hv : v ≤ Ag.mostView) {l : List En} (hl : LF l) (ha : c.agreed ≤ l.length) : CFine { c with last := v, list := l } :=
  ⟨h.me, h.n, h.view, hv, hl, ha, h.wait, h.quiet, h.got, h.held⟩
theorem SAt.unwait {H : AHeap} {F : Ob} {s : Ag.St} (h : SAt H F s) {ow : Nat} (how : H ow = none) : SAt ((H.set F.o (.cel (coreC s.c F.og F.oh (.vw ow 3 0 0)))).set ow (.cel [])) { F with ow := ow } { s with c := { s.c with wait := [] } } ∧
    Turn F.l H F { F with ow := ow } ((H.set F.o (.cel (coreC s.c F.og F.oh (.vw ow 3 0 0)))).set ow (.cel [])) := by
  have h0 := h
  obtain ⟨⟨⟨off, xs, hco, hw, hx1, hx2⟩, ⟨eg, hg, hg2⟩, ⟨eh, hh, hh2⟩⟩, hst, hsv, hsn, nd⟩ := h
  have n0 := nd
  obtain ⟨n1, n2, n3, n4, n5, n6, n7, n8, n9, n10, n11, n12, n13, n14, n15, n16, n17, n18, n19, n20, n21⟩ := nd
  have m1 : ow ≠ F.o := by exact auto_nq
  refine ⟨⟨⟨⟨0, [], ?_, ?_, rfl, rfl⟩, ⟨eg, ?_, ⟨hg2.get, hg2.len⟩⟩, ⟨eh, ?_, ⟨hh2.get, hh2.nd⟩⟩⟩, ?_, ?_, ?_, ?_⟩, ⟨rfl, rfl, fun p hp => ?_, fun p y hp hF => ?_⟩⟩
  · exact auto_heap
  · exact auto_heap
  · exact auto_heap
  · exact auto_heap
  · exact auto_heap
  · exact auto_heap
  · exact auto_heap
  · constructor <;> exact auto_nq
  · simp only [Ob.l, List.mem_cons, List.not_mem_nil, or_false] at hp ⊢
    rcases hp with e | e | e | e | e | e | e
    · exact .inl (.inl e)
    · exact .inl (.inr (.inl e))
    · exact .inl (.inr (.inr (.inl e)))
    · exact .inr (by rw [e]; exact how)
    · exact .inl (.inr (.inr (.inr (.inr (.inl e)))))
    · exact .inl (.inr (.inr (.inr (.inr (.inr (.inl e))))))
    · exact .inl (.inr (.inr (.inr (.inr (.inr (.inr e))))))
  · (obtain ⟨f1, f2, f3, f4, f5, f6, f7⟩ := Ob.nel hF; exact auto_heap)
theorem grow_calls (H : AHeap) (F : Ob) (s : Ag.St) (h : SAt H F s) (hf : CFine s.c) (hl : s.save.length ≤ 9000) (hl2 : s.send.length ≤ 9000) :
    ACalls Try.prog 37 [.ptr F.o 0, .ptr F.os 0] H fun r H' => r = .tup [] ∧ ∃ F', SAt H' F' s.grow ∧ Turn F.l H F F' H' := by
  have h0 := h
  obtain ⟨⟨⟨off, xs, hco, hw, hx1, hx2⟩, ⟨eg, hg, hg2⟩, ⟨eh, hh, hh2⟩⟩, hst, hsv, hsn, nd⟩ := h
  have f1 := hf.list.len
  have f2 := hf.wait.len
  have f3 := hf.wait.ok
  have f4 := hf.list
  have hCl := fun H => Clip_calls H s.c.list (by omega)
  unfold coreC at hco
  refine acalls_of_aw2 Try.func37 rfl (by decide) ?_
  (first | focus (refine yy36 ?_; (refine zc auto_wl (hCl _) ?_; rintro r H' ⟨rfl, rfl⟩); refine awl_s rfl (s_assign (v := .slsx _ _) rfl) ?_; refine yy4 ?_; refine yy13 ?_; refine yy22 ?_; refine yy87 ?_; refine yy54 ?_; rotate_left) | fail)
  clear hCl
  generalize hHH : H' = H at *
  clear hHH H'
  refine aw_loop (fun mm R' H2 => ∃ (i : Nat) (lv : AV), ((lv = .slsx s.c.list.length (s.c.list.flatMap En.cells) ∧ Ag.grown s.c.list (s.c.wait.take i) = s.c.list ∧ H2 = H) ∨ (∃ oL, lv = .vw oL 3 0 (Ag.grown s.c.list (s.c.wait.take i)).length ∧ H oL = none ∧ H2 = H.set oL (.cel ((Ag.grown s.c.list (s.c.wait.take i)).flatMap En.cells)))) ∧ R' = [(0, .ptr F.o 0), (1, .ptr F.os 0), (4, lv), (15, .vw F.ow 3 off s.c.wait.length), (16, .raw (.int .i64 (s.c.wait.length : Int))), (17, .raw (.int .i64 (i : Int)))] ∧ i + mm = s.c.wait.length) ?_ ?_
  · exact ⟨s.c.wait.length, _, _, auto_ent, 0, _, .inl ⟨rfl, rfl, rfl⟩, rfl, by omega⟩
  rintro mm R0 H2 ⟨i, lv, hD, rfl, hi⟩
  obtain ⟨g1, g2⟩ := grown_LF f4 (w := s.c.wait.take i) fun e he => f3 e (List.mem_of_mem_take he)
  by_cases hlt : i < s.c.wait.length
  · have hg0 : s.c.wait[i]? = some s.c.wait[i] := List.getElem?_eq_getElem hlt
    have hge : List.take 3 (List.drop (off + i * 3) xs) = (s.c.wait[i]).cells := by rw [← List.drop_drop, hx2]; exact ent_get hg0
    have hgs := grown_succ (l := s.c.list) hg0
    generalize s.c.wait[i] = e at *
    generalize hgr : Ag.grown s.c.list (s.c.wait.take i) = acc at *
    have hal := g1.len
    have hac : (acc.flatMap En.cells).length = acc.length * 3 := flat_len (sz := 3) (fun _ => rfl) _
    rcases hD with ⟨rfl, rfl, rfl⟩ | ⟨oL, rfl, hoL, rfl⟩
    · have hHs := fun H => has_calls H s.c.list e.id (by omega)
      (first | focus (refine yy9 ?_; refine aw_condp rfl (fun hc => ?_) (fun hc => ?_); refine yy21 ?_; refine yy2 ?_; refine yy93 ?_; refine awl_s rfl (s_load_agg rfl auto_heap (by assumption) (by rfl) auto_len) ?_; refine awl_alloc rfl rfl rfl (fun oN hoN => ?_); refine yy80 ?_; refine yy68 ?_; refine awl_s rfl (s_move (v := .slsx _ _) rfl) ?_; refine awl_s rfl (s_len_slsx rfl) ?_; refine yy94 ?_; refine yy3 ?_; refine zg1 rfl rfl rfl (fun hc => ?_) (fun hc => ?_); refine awl_s rfl (s_move (v := .slsx _ _) rfl) ?_; refine yy6 ?_; refine yy34 ?_; (refine zc auto_wl (hHs _) ?_; rintro r H' ⟨rfl, rfl⟩); refine yy6 ?_; refine yy44 ?_; refine yy45 ?_; refine aw_cond rfl (fun hc => ?_) (fun hc => ?_); refine aw_region ?_; refine awl_s rfl (s_move (v := .slsx _ _) rfl) ?_; refine yy98 ?_; refine yy88 ?_; refine awl_own_slsx_cel rfl rfl auto_len rfl auto_src auto_len auto_len auto_len (fun oN hoN => ?_); refine yy65 ?_; refine yy7 ?_; refine yy26 ?_; rotate_left; refine aw_skip ?_; refine yy26 ?_; rotate_left; refine yy37 ?_; refine yy51 ?_; refine yy81 ?_; refine yy26 ?_; rotate_left; exact absurd hc auto_no) | fail)
      all_goals try (exfalso; omega)
      · rw [if_pos ⟨by omega, by simpa using hc⟩] at hgs
        exact ⟨mm - 1, [(0, .ptr F.o 0), (1, .ptr F.os 0), (4, .vw oN 3 0 (s.c.list.length + 1)), (15, .vw F.ow 3 off s.c.wait.length), (16, .raw (.int .i64 (s.c.wait.length : Int))), (17, .raw (.int .i64 ((i + 1 : Nat) : Int)))], H2.set oN (.cel (s.c.list.flatMap En.cells ++ e.cells)), by omega, auto_entg, i + 1, _, .inr ⟨oN, by rw [hgs, List.length_append]; rfl, by exact auto_nn, by rw [hgs, List.flatMap_append]; simp⟩, rfl, by omega⟩
      · rw [if_neg (fun x => by rw [x.2] at hc; cases hc)] at hgs
        exact ⟨mm - 1, [(0, .ptr F.o 0), (1, .ptr F.os 0), (4, .slsx s.c.list.length (s.c.list.flatMap En.cells)), (15, .vw F.ow 3 off s.c.wait.length), (16, .raw (.int .i64 (s.c.wait.length : Int))), (17, .raw (.int .i64 ((i + 1 : Nat) : Int)))], H2, by omega, auto_entg, i + 1, _, .inl ⟨rfl, hgs, rfl⟩, rfl, by omega⟩
      · rw [if_neg (fun x => hc x.1)] at hgs
        exact ⟨mm - 1, [(0, .ptr F.o 0), (1, .ptr F.os 0), (4, .slsx s.c.list.length (s.c.list.flatMap En.cells)), (15, .vw F.ow 3 off s.c.wait.length), (16, .raw (.int .i64 (s.c.wait.length : Int))), (17, .raw (.int .i64 ((i + 1 : Nat) : Int)))], H2, by omega, auto_entg, i + 1, _, .inl ⟨rfl, hgs, rfl⟩, rfl, by omega⟩
    · have hHs := fun H h => has_vw H oL 0 (acc.flatMap En.cells) acc e.id (by omega) h (by omega) rfl
      (first | focus (refine yy9 ?_; refine aw_condp rfl (fun hc => ?_) (fun hc => ?_); refine yy21 ?_; refine yy2 ?_; refine yy93 ?_; refine awl_s rfl (s_load_agg rfl auto_heap (by assumption) (by rfl) auto_len) ?_; refine awl_alloc rfl rfl rfl (fun oN hoN => ?_); refine yy80 ?_; refine yy68 ?_; refine yy52 ?_; refine yy87 ?_; refine yy94 ?_; refine yy3 ?_; refine zg1 rfl rfl rfl (fun hc => ?_) (fun hc => ?_); refine yy52 ?_; refine yy6 ?_; refine yy34 ?_; (refine zc auto_wl (hHs _ auto_heap) ?_; rintro r H' ⟨rfl, rfl⟩); refine yy6 ?_; refine yy44 ?_; refine yy45 ?_; refine aw_cond rfl (fun hc => ?_) (fun hc => ?_); refine aw_region ?_; refine yy52 ?_; refine yy98 ?_; refine yy88 ?_; refine za4 rfl rfl rfl auto_heap auto_al auto_src auto_len auto_len (fun oN hoN => ?_); refine yy65 ?_; refine yy7 ?_; refine yy26 ?_; rotate_left; refine aw_skip ?_; refine yy26 ?_; rotate_left; refine yy37 ?_; refine yy51 ?_; refine yy81 ?_; refine yy26 ?_; rotate_left; exact absurd hc auto_no) | fail)
      all_goals try (exfalso; omega)
      · rw [if_pos ⟨by omega, by simpa using hc⟩] at hgs
        exact ⟨mm - 1, [(0, .ptr F.o 0), (1, .ptr F.os 0), (4, .vw oN 3 0 (acc.length + 1)), (15, .vw F.ow 3 off s.c.wait.length), (16, .raw (.int .i64 (s.c.wait.length : Int))), (17, .raw (.int .i64 ((i + 1 : Nat) : Int)))], H.set oN (.cel (acc.flatMap En.cells ++ e.cells)), by omega, auto_entg, i + 1, _, .inr ⟨oN, by rw [hgs, List.length_append]; rfl, by exact auto_nn, by rw [hgs, List.flatMap_append]; simp⟩, rfl, by omega⟩
      · rw [if_neg (fun x => by rw [x.2] at hc; cases hc)] at hgs
        exact ⟨mm - 1, [(0, .ptr F.o 0), (1, .ptr F.os 0), (4, .vw oL 3 0 acc.length), (15, .vw F.ow 3 off s.c.wait.length), (16, .raw (.int .i64 (s.c.wait.length : Int))), (17, .raw (.int .i64 ((i + 1 : Nat) : Int)))], H.set oL (.cel (acc.flatMap En.cells)), by omega, auto_entg, i + 1, _, .inr ⟨oL, by rw [hgs], hoL, by rw [hgs]⟩, rfl, by omega⟩
      · rw [if_neg (fun x => hc x.1)] at hgs
        exact ⟨mm - 1, [(0, .ptr F.o 0), (1, .ptr F.os 0), (4, .vw oL 3 0 acc.length), (15, .vw F.ow 3 off s.c.wait.length), (16, .raw (.int .i64 (s.c.wait.length : Int))), (17, .raw (.int .i64 ((i + 1 : Nat) : Int)))], H.set oL (.cel (acc.flatMap En.cells)), by omega, auto_entg, i + 1, _, .inr ⟨oL, by rw [hgs], hoL, by rw [hgs]⟩, rfl, by omega⟩
  obtain rfl : i = s.c.wait.length := by omega
  rw [List.take_length] at *
  (first | focus (refine yy9 ?_; refine yy30 ?_; intro hc; rotate_left) | fail)
  all_goals try (exfalso; omega)
  generalize hL : Ag.grown s.c.list s.c.wait = L at *
  refine aw_ent (R' := [(0, .ptr F.o 0), (1, .ptr F.os 0), (4, lsE L)]) (H' := H) ?_ ?_
  · rcases hD with ⟨rfl, rfl, rfl⟩ | ⟨oL, rfl, hoL, rfl⟩
    · exact (Ent.weakReg 4 (y := lsE s.c.list) rfl (W.slsx rfl)).trans (Ent.sub _ (by (repeat' (first | exact RSub.nil _ | apply RSub.cons)); all_goals rfl))
    · exact (Ent.seal_cel1 4 rfl (flat_len (sz := 3) (fun _ => rfl) L) hoL).trans (Ent.sub _ (by (repeat' (first | exact RSub.nil _ | apply RSub.cons)); all_goals rfl))
  clear hD
  (first | focus (refine yy17 ?_; refine yy48 ?_; refine yy58 ?_; refine yy4 ?_; rotate_left) | fail)
  refine aw_own_cell (o := F.o) 10 3 (AHeap.set_self _ _ _) rfl (fun ow how => ?_)
  have how2 : H ow = none := AHeap.none_of_set how
  obtain ⟨a1, a2⟩ := h0.unwait how2
  rw [AHeap.set_set]
  have hf1 : CFine ({ s.c with wait := [] } : Ag.Co) := ⟨hf.me, hf.n, hf.view, hf.last, hf.list, hf.agr, ⟨by simp, by simp⟩, hf.quiet, hf.got, hf.held⟩
  refine aw_ent (R' := [(0, .ptr F.o 0), (1, .ptr F.os 0), (4, lsE L)]) (H' := (H.set F.o (.cel (coreC s.c F.og F.oh (.vw ow 3 0 0)))).set ow (.cel [])) (Ent.sub _ (by (repeat' (first | exact RSub.nil _ | apply RSub.cons)); all_goals rfl)) ?_
  generalize ((H.set F.o (.cel (coreC s.c F.og F.oh (.vw ow 3 0 0)))).set ow (.cel [])) = H1 at *
  have a3 := a2.o
  have a4 := a2.os
  generalize ({ F with ow := ow } : Ob) = F1 at *
  obtain ⟨off1, k1, _⟩ := a1.core
  rw [a3] at k1
  replace k1 : H1 F.o = some (.cel [mI s.c.me, mI s.c.n, uI s.c.view, uI s.c.last, lsE s.c.list, mI s.c.agreed, bB s.c.lead, mI s.c.quiet, .mp F1.og, .mp F1.oh, .vw F1.ow 3 off1 0]) := k1
  clear hco hw hg hh hst hsv hsn hx1 hx2 hg2 hh2 h0 how how2 nd
  by_cases hlt2 : s.c.list.length < L.length
  · have hgrow : s.grow = Ag.St.lay { (Ag.St.take { s with c := { s.c with wait := [] } } s.c.view L) with c := (Ag.St.take { s with c := { s.c with wait := [] } } s.c.view L).c.settle } := by unfold Ag.St.grow; dsimp only; rw [hL, if_pos hlt2]
    have hT := take_calls H1 F1 { s with c := { s.c with wait := [] } } s.c.view L a1 hf1 (by show s.save.length ≤ _; omega) hf.view g1
    rw [a3, a4] at hT
    (first | focus (refine yy13 ?_; refine yy53 ?_; refine yy22 ?_; refine yy42 ?_; refine yy31 ?_; refine yy4 ?_; refine aw_condp rfl (fun hc => ?_) (fun hc => ?_); refine yy40 ?_; refine yy25 ?_; refine yy22 ?_; refine yy46 ?_; (refine zc auto_wl (hT) ?_; rintro r H' ⟨rfl, F2, b1, b2⟩); refine yy4 ?_; rotate_left; exact absurd hc auto_no) | fail)
    have hc2 : (Ag.St.take { s with c := { s.c with wait := [] } } s.c.view L).c = { s.c with wait := [], last := s.c.view, list := L } := Ag.take_c _ _ _
    have hf2 : CFine (Ag.St.take { s with c := { s.c with wait := [] } } s.c.view L).c := by rw [hc2]; exact CFine.take hf1 hf.view g1 (by have := hf.agr; show s.c.agreed ≤ _; omega)
    have hsd : (Ag.St.take { s with c := { s.c with wait := [] } } s.c.view L).send.length ≤ 9000 := by rw [Ag.take_send]; exact hl2
    have b4 := a2.trans b2
    generalize Ag.St.take { s with c := { s.c with wait := [] } } s.c.view L = t at *
    clear hT
    have hS := settle_S _ F2 (t) b1 hf2
    rw [b4.o] at hS
    (first | focus (refine yy17 ?_; (refine zc auto_wl (hS) ?_; rintro r H' ⟨rfl, c1, c2⟩); refine yy4 ?_; rotate_left) | fail)
    have hLy := lay_calls _ F2 _ c1 (CFine.settle hf2) (by show t.send.length ≤ _; omega)
    rw [b4.o, b4.os] at hLy
    have b3 := b4.trans c2
    clear c1 c2 hS
    (first | focus (refine yy40 ?_; refine yy25 ?_; (refine zc auto_wl (hLy) ?_; rintro r H' ⟨rfl, F4, d1, d2⟩); refine yy7 ?_; rotate_left) | fail)
    exact ⟨.inr rfl, _, _, _, Ent.refl _ _, ret0 rfl, rfl, F4, by rw [hgrow]; exact d1, b3.trans d2⟩
  · have hgrow : s.grow = Ag.St.lay { s with c := ({ s.c with wait := [] } : Ag.Co).settle } := by unfold Ag.St.grow; dsimp only; rw [hL, if_neg hlt2]
    (first | focus (refine yy13 ?_; refine yy53 ?_; refine yy22 ?_; refine yy42 ?_; refine yy31 ?_; refine yy4 ?_; refine yy55 ?_; intro hc; rotate_left) | fail)
    have hS := settle_S _ F1 ({ s with c := { s.c with wait := [] } }) a1 hf1
    rw [a2.o] at hS
    (first | focus (refine yy17 ?_; (refine zc auto_wl (hS) ?_; rintro r H' ⟨rfl, c1, c2⟩); refine yy4 ?_; rotate_left) | fail)
    have hLy := lay_calls _ F1 _ c1 (CFine.settle hf1) (by show s.send.length ≤ _; omega)
    rw [a2.o, a2.os] at hLy
    have b3 := a2.trans c2
    clear c1 c2 hS
    (first | focus (refine yy40 ?_; refine yy25 ?_; (refine zc auto_wl (hLy) ?_; rintro r H' ⟨rfl, F4, d1, d2⟩); refine yy7 ?_; rotate_left) | fail)
    exact ⟨.inr rfl, _, _, _, Ent.refl _ _, ret0 rfl, rfl, F4, by rw [hgrow]; exact d1, b3.trans d2⟩
end Go.Proofs.Ytbciofnejefkiaa
