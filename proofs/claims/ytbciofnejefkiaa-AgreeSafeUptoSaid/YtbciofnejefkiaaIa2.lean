import Derived.Test.YtbciofnejefkiaaIa1
import Derived.Test.YtbciofnejefkiaaIz
import Derived.Test.YtbciofnejefkiaaAmWk
import Derived.Test.YtbciofnejefkiaaAmPeek
namespace Go.Proofs.Ytbciofnejefkiaa
set_option linter.unusedSimpArgs false
set_option linter.unusedVariables false

/-! Each of a replica's steps keeps what holds. -/
namespace Ag
variable {g0 g : Gh} {r : Nat} {d0 : Co} {s : St}
theorem lay_c (s : St) : s.lay.c = s.c ∧ s.lay.save = s.save := by
  have : ∀ (l : List Nat) (s : St), (l.foldl (fun (s : St) (to : Nat) => s.out (layM s.c to)) s).c = s.c ∧ (l.foldl (fun (s : St) (to : Nat) => s.out (layM s.c to)) s).save = s.save := by
    intro l
    induction l with
    | nil => intro s; exact ⟨rfl, rfl⟩
    | cons a l ih => intro s; simp only [List.foldl_cons]; rw [(ih _).1, (ih _).2, out_c, out_save]; exact ⟨rfl, rfl⟩
  exact this _ s
theorem tell_c (s : St) (m : Mg) : (s.tell m).c = s.c ∧ (s.tell m).save = s.save := by
  have : ∀ (l : List Nat) (s : St), (l.foldl (fun (s : St) (to : Nat) => s.out { m with to := (to : Int) }) s).c = s.c ∧ (l.foldl (fun (s : St) (to : Nat) => s.out { m with to := (to : Int) }) s).save = s.save := by
    intro l
    induction l with
    | nil => intro s; exact ⟨rfl, rfl⟩
    | cons a l ih => intro s; simp only [List.foldl_cons]; rw [(ih _).1, (ih _).2, out_c, out_save]; exact ⟨rfl, rfl⟩
  exact this _ s
theorem settle_same (c : Co) : c.settle.view = c.view ∧ c.settle.me = c.me ∧ c.settle.n = c.n ∧ c.settle.list = c.list ∧ c.settle.last = c.last ∧ c.settle.lead = c.lead ∧ c.settle.wait = c.wait ∧ base c.settle = base c := by
  unfold Co.settle; dsimp only
  split <;> exact ⟨rfl, rfl, rfl, rfl, rfl, rfl, rfl, rfl⟩
theorem grow_view (s : St) : s.grow.c.view = s.c.view := by
  unfold St.grow; dsimp only
  rw [(lay_c _).1]
  show (Co.settle _).view = _
  rw [(settle_same _).1]
  split
  · rw [take_c]
  · rfl
theorem won_view (s : St) : s.won.c.view = s.c.view := by
  unfold St.won; dsimp only
  split
  · rfl
  · rw [grow_view, take_c]
theorem count_view (s : St) (q : Nat) (v : Vt) : (s.count q v).c.view = s.c.view := by
  unfold St.count
  split
  · rfl
  · rw [won_view]
theorem vote_view (s : St) : s.vote.c.view = s.c.view := by
  unfold St.vote; dsimp only
  split
  · exact count_view _ _ _
  · rw [out_c]

theorem lay_mok {c : Co} (G : GOK g) (hc : COK g c) (hl : c.view % g.n = c.me) (he : c.last = c.view) (to : Nat) (ht : to < g.n) (hne : to ≠ c.me) :
    MOK g { layM c to with from_ := (c.me : Int), view := c.view } := by
  have hlok := hc.lok G
  have hcur := hc.cur
  rw [he] at hcur
  have hme := hc.me
  have hcomm := hc.comm
  rw [he] at hcomm
  have hini : g.ini c.view ≤ c.list.length := by
    obtain ⟨_, _, _, _, _, x⟩ := G.acc _ hme _ _ hcur; exact x
  have h200 := hlok.len
  have hagr := hc.agr
  have hA : ∀ es : List En, es = [] ∨ es = c.list → ∀ k : Int, (k = 6 ∧ es = []) ∨ (k = 4 ∧ es = c.list) → MOK g ⟨k, (c.me : Int), (to : Int), c.view, 0, c.list.length, c.agreed, es, []⟩ := by
    intro es hes k hk
    refine ⟨⟨by show (0 : Int) ≤ (c.me : Int); omega, by show (c.me : Int) < _; omega⟩, ⟨by show (0 : Int) ≤ (to : Int); omega, by show (to : Int) < _; omega⟩, ?_, ?_, hc.most, Nat.zero_le _, h200, Nat.le_trans hagr h200, ?_, rfl, fun h => ?_, fun _ => ?_, fun h => ?_, fun h => ?_⟩
    · show (to : Int) ≠ (c.me : Int); omega
    · show 1 ≤ k ∧ k ≤ 6; omega
    · show LOK g.S es
      rcases hes with rfl | rfl
      · exact LOK.nil
      · exact hlok
    · have h' : k = 3 := h; omega
    · refine ⟨?_, c.list, ?_, hagr, hcomm⟩
      · show (c.me : Int) = ((c.view % g.n : Nat) : Int); rw [hl]
      · show g.acc (c.view % g.n) c.view = _; rw [hl]; exact hcur
    · have h' : k = 4 := h
      have : es = c.list := by rcases hk with ⟨x, _⟩ | ⟨_, x⟩; omega; exact x
      subst this
      exact ⟨c.list, by show g.acc (c.view % g.n) c.view = _; rw [hl]; exact hcur, List.prefix_refl _, hini⟩
    · have h' : k = 5 := h; omega
  unfold layM msg0; dsimp only
  split
  · split
    · exact hA _ (.inr rfl) 4 (.inr ⟨rfl, rfl⟩)
    · exact hA _ (.inl rfl) 6 (.inl ⟨rfl, rfl⟩)
  · exact hA _ (.inr rfl) 4 (.inr ⟨rfl, rfl⟩)
theorem layM_to (c : Co) (to : Nat) : (layM c to).to = (to : Int) := by
  unfold layM msg0; dsimp only
  split
  · split <;> rfl
  · rfl
theorem SOK.lay (h : SOK g0 r d0 g s) (hl : s.c.view % g.n = r) (he : s.c.last = s.c.view) : SOK g0 r d0 g s.lay := by
  have hn := h.cok.n
  unfold St.lay
  rw [hn, outs_view (layM s.c) (fun s => layM s.c) s.c (fun t ht => by simp only [ht]) _ s rfl]
  refine (SOK.outs (layM s.c) (fun to ht hne => ?_) g.n (Nat.le_refl _) s.c rfl h).1
  have hme := h.me
  rw [layM_to] at hne
  have := lay_mok h.gok h.cok (by rw [hl, hme]) he to ht (by rw [hme]; omega)
  rw [hme] at this; exact this
theorem SOK.tell2 (h : SOK g0 r d0 g s) : SOK g0 r d0 g (s.tell (msg0 2 0)) := by
  have hn := h.cok.n
  unfold St.tell
  rw [hn]
  refine (SOK.outs (fun to => { msg0 2 0 with to := (to : Int) }) (fun to ht hne => ?_) g.n (Nat.le_refl _) s.c rfl h).1
  have hrn : r < g.n := by rw [← h.me]; exact h.cok.me
  refine ⟨⟨by show (0 : Int) ≤ (r : Int); omega, by show (r : Int) < _; omega⟩, ⟨by show (0 : Int) ≤ (to : Int); omega, by show (to : Int) < _; omega⟩, hne, by show (1 : Int) ≤ 2 ∧ (2 : Int) ≤ 6; decide, h.cok.most, Nat.zero_le _, Nat.zero_le _, Nat.zero_le _, LOK.nil, rfl, fun h => by exact absurd h (by show ¬ (2 : Int) = _; decide), fun h => by rcases h with h | h <;> exact absurd h (by show ¬ (2 : Int) = _; decide), fun h => by exact absurd h (by show ¬ (2 : Int) = _; decide), fun h => by exact absurd h (by show ¬ (2 : Int) = _; decide)⟩
theorem grown_ok {S : List (Nat × List Int)} : ∀ (w l : List En), LOK S l → (∀ e ∈ w, EOK S e) → LOK S (grown l w) ∧ l <+: grown l w
  | [], l, h, _ => ⟨h, List.prefix_refl _⟩
  | e :: w, l, h, hw => by
    unfold grown
    simp only [List.foldl_cons]
    have hw' : ∀ x ∈ w, EOK S x := fun x hx => hw x (List.mem_cons_of_mem _ hx)
    split
    · next hc =>
      have h1 : LOK S (l ++ [e]) := ⟨fun x hx => by
          rcases List.mem_append.1 hx with hx | hx
          · exact h.all x hx
          · rw [List.mem_singleton.1 hx]; exact hw e (List.mem_cons_self), uniq_snoc h.uniq hc.2, by rw [List.length_append, List.length_singleton]; omega⟩
      obtain ⟨h2, h3⟩ := grown_ok w (l ++ [e]) h1 hw'
      exact ⟨h2, (List.prefix_append _ _).trans h3⟩
    · exact grown_ok w l h hw'
theorem SOK.grow (h : SOK g0 r d0 g s) (hl : s.c.lead = true) : ∃ g', Le g g' ∧ SOK g0 r d0 g' s.grow := by
  have hc := h.cok
  have hme := h.me
  obtain ⟨hv, he⟩ := hc.lead hl
  obtain ⟨h1, h2⟩ := grown_ok s.c.wait s.c.list (hc.lok h.gok) hc.wait
  unfold St.grow; dsimp only
  generalize grown s.c.list s.c.wait = l at *
  have hs : SOK g0 r d0 g { s with c := { s.c with wait := [] } } := by
    refine h.mem ?_ rfl
    exact ⟨hc.me, hc.n, hc.view, hc.most, hc.last, hc.cur, hc.later, hc.agr, hc.comm, hc.got, hc.held, hc.lead, fun e he => (by cases he), Nat.zero_le _⟩
  have key : ∀ (t : St) (g' : Gh), Le g g' → SOK g0 r d0 g' t → t.c.view = s.c.view → t.c.last = s.c.view → ∃ g', Le g g' ∧ SOK g0 r d0 g' (St.lay { t with c := t.c.settle }) := by
    intro t g' a ht e1 e2
    have hm := ht.me
    have e3 : t.c.view % g'.n = t.c.me := by rw [hm, e1, a.n, hv, hme]
    refine ⟨g', a, ?_⟩
    obtain ⟨z1, z2, z3, z4, z5, z6, z7, z8⟩ := settle_same t.c
    have h3 := ht.mem (settle_ok ht.gok ht.cok e3 (by rw [e1, e2])) z8
    refine h3.lay ?_ ?_
    · show (t.c.settle).view % _ = r; rw [z1, e3, hm]
    · show (t.c.settle).last = (t.c.settle).view; rw [z5, z1, e1, e2]
  split
  · obtain ⟨g', a, h3⟩ := hs.take (l := l) h1 (fun _ => h2) ((List.take_prefix _ _).trans h2) (.inl ⟨by show s.c.view % _ = r; rw [hv, hme], fun hlt => by have : s.c.last < s.c.view := hlt; omega⟩)
    have hv2 : ({ s with c := { s.c with wait := [] } } : St).c.view = s.c.view := rfl
    rw [hv2] at h3
    exact key _ g' a h3 (by rw [take_c]) (by rw [take_c])
  · exact key _ g (Le.refl _) hs rfl he
theorem SOK.won {t : St} (h1 : SOK g0 r d0 g t) (hl : t.c.view % g.n = r) : ∃ g', Le g g' ∧ SOK g0 r d0 g' t.won := by
  have hC' : COK g t.c := h1.cok
  unfold St.won; dsimp only
  split
  · exact ⟨g, Le.refl _, h1⟩
  next hn =>
  rw [not_or] at hn
  have htm := h1.me
  obtain ⟨b1, b2, b3, b4⟩ := best_ok h1.gok hC' (by rw [hl, htm]) (by omega)
  obtain ⟨g', a, h2⟩ := h1.take b1 b2 b3 (.inl ⟨hl, b4⟩)
  have h3 := h2.cok
  rw [take_c] at h3
  have h4 : COK g' { (t.take t.c.view t.c.best.list).c with lead := true, got := fun _ => none } := by
    rw [take_c]
    exact ⟨h3.me, h3.n, h3.view, h3.most, h3.last, h3.cur, h3.later, h3.agr, h3.comm, fun p x hx => (by cases hx), h3.held, fun _ => ⟨by show t.c.view % g'.n = t.c.me; rw [a.n, hl, htm], rfl⟩, h3.wait, h3.waitn⟩
  obtain ⟨g'', a', h5⟩ := (h2.mem h4 (by simp only [take_c, base])).grow rfl
  exact ⟨g'', a.trans a', h5⟩
theorem SOK.count (h : SOK g0 r d0 g s) {q : Nat} {v : Vt} (hq : q < g.n) (hv : VoteOK g q s.c.view v.last v.list) (hl : s.c.view % g.n = r) : ∃ g', Le g g' ∧ SOK g0 r d0 g' (s.count q v) := by
  have hc := h.cok
  have hme := h.me
  unfold St.count
  split
  · exact ⟨g, Le.refl _, h⟩
  have hC : COK g { s.c with got := upd s.c.got q (some v) } := by
    refine ⟨hc.me, hc.n, hc.view, hc.most, hc.last, hc.cur, hc.later, hc.agr, hc.comm, fun p x hx => ?_, hc.held, hc.lead, hc.wait, hc.waitn⟩
    have hx' : upd s.c.got q (some v) p = some x := hx
    unfold upd at hx'
    split at hx'
    · next e => subst e; cases hx'; exact ⟨hq, hv, by show s.c.view % g.n = s.c.me; rw [hl, hme]⟩
    · exact hc.got p x hx'
  exact (h.mem hC rfl : SOK g0 r d0 g { s with c := { s.c with got := upd s.c.got q (some v) } }).won hl
theorem SOK.vote (h : SOK g0 r d0 g s) : ∃ g', Le g g' ∧ SOK g0 r d0 g' s.vote := by
  have hc := h.cok
  have hme := h.me
  have hn := hc.n
  unfold St.vote; dsimp only
  have hV : VoteOK g s.c.me s.c.view s.c.last s.c.list := ⟨by rw [hc.view]; exact Nat.le_refl _, hc.last, s.c.list, hc.cur, List.prefix_refl _, fun _ => ⟨rfl, fun u hu _ => hc.later u hu⟩⟩
  split
  · next e => exact h.count hc.me hV (by rw [← hn, e, hme])
  · next e =>
    refine ⟨g, Le.refl _, h.out _ fun hne => ?_⟩
    have hmn := hc.me
    have hm : s.c.view % s.c.n < g.n := by rw [hn]; exact Nat.mod_lt _ h.gok.pos
    refine ⟨⟨by show (0 : Int) ≤ (s.c.me : Int); omega, by show (s.c.me : Int) < _; omega⟩, ⟨by show (0 : Int) ≤ ((s.c.view % s.c.n : Nat) : Int); omega, by show ((s.c.view % s.c.n : Nat) : Int) < _; omega⟩, hne, by show (1 : Int) ≤ 3 ∧ (3 : Int) ≤ 6; decide, hc.most, hc.last, Nat.zero_le _, Nat.zero_le _, hc.lok h.gok, rfl, fun _ => hV, fun h => by rcases h with h | h <;> exact absurd h (by show ¬ (3 : Int) = _; decide), fun h => by exact absurd h (by show ¬ (3 : Int) = _; decide), fun h => by exact absurd h (by show ¬ (3 : Int) = _; decide)⟩
theorem SOK.begin (h : SOK g0 r d0 g s) : ∃ g', Le g g' ∧ SOK g0 r d0 g' s.begin := by
  unfold St.begin
  split
  · next hm =>
    obtain ⟨g1, a1, h1⟩ := h.promise (v := s.c.view + 1) (by omega) (by omega)
    obtain ⟨g2, a2, h2⟩ := h1.tell2.vote
    exact ⟨g2, a1.trans a2, h2⟩
  · exact ⟨g, Le.refl _, h⟩
theorem wanted_lead (c : Co) (e : En) : (c.wanted e).2 = true → (c.wanted e).1.lead = true := by
  unfold Co.wanted; split
  · intro h; cases h
  · exact id
theorem SOK.wanted (h : SOK g0 r d0 g s) {e : En} (he : may e = true → EOK g.S e) : SOK g0 r d0 g { s with c := (s.c.wanted e).1 } := by
  have hc := h.cok
  unfold Co.wanted
  split
  · exact h
  · next hm =>
    rw [not_or] at hm
    have hE := he (by cases hx : may e; exact absurd hx hm.1; rfl)
    refine h.mem ⟨hc.me, hc.n, hc.view, hc.most, hc.last, hc.cur, hc.later, hc.agr, hc.comm, hc.got, hc.held, hc.lead, fun x hx => ?_, ?_⟩ rfl
    · rcases List.mem_append.1 hx with hx | hx
      · split at hx
        · exact hc.wait x (List.mem_of_mem_drop hx)
        · exact hc.wait x hx
      · rw [List.mem_singleton.1 hx]; exact hE
    · have := hc.waitn
      show (_ ++ [e]).length ≤ 200
      rw [List.length_append, List.length_singleton]
      split
      · rw [List.length_drop]; omega
      · next hx => omega
theorem SOK.want (h : SOK g0 r d0 g s) {e : En} (he : may e = true → EOK g.S e) : ∃ g', Le g g' ∧ SOK g0 r d0 g' (s.want e) := by
  unfold St.want; dsimp only
  have h1 := h.wanted he
  split
  · next hl => exact h1.grow (wanted_lead _ _ hl)
  · exact ⟨g, Le.refl _, h1⟩
theorem SOK.wants : ∀ (l : List En) {g : Gh} {s : St}, SOK g0 r d0 g s → (∀ e ∈ l, EOK g.S e) → ∃ g', Le g g' ∧ SOK g0 r d0 g' (l.foldl St.want s)
  | [], g, s, h, _ => ⟨g, Le.refl _, h⟩
  | e :: l, g, s, h, he => by
    obtain ⟨g1, a1, h1⟩ := h.want (e := e) fun _ => he e (List.mem_cons_self)
    obtain ⟨g2, a2, h2⟩ := SOK.wants l h1 fun x hx => (he x (List.mem_cons_of_mem _ hx)).mono a1.S
    exact ⟨g2, a1.trans a2, h2⟩
theorem SOK.init (G : GOK g) {c : Co} (hc : COK g c) : SOK g c.me (base c) g ⟨c, [], []⟩ where
  le := Le.refl _
  only := Only.refl _ _
  gok := G
  cok := hc
  me := rfl
  send m hm := by cases hm
  disk := rfl
  part k := ⟨g, c, Le.refl _, Only.refl _ _, G, hc, rfl, by rw [List.take_nil]; rfl⟩
theorem submit_ok (G : GOK g) {c : Co} (hc : COK g c) (id : Nat) (row : List Int) (he : may ⟨id, 0, row⟩ = true → EOK g.S ⟨id, 0, row⟩) : ∃ g', Le g g' ∧ SOK g c.me (base c) g' (c.submit id row) := by
  have h0 := SOK.init G hc
  have h1 : ∃ g', Le g g' ∧ SOK g c.me (base c) g' (if c.n = 1 ∧ c.lead = false then St.begin ⟨c, [], []⟩ else ⟨c, [], []⟩) := by
    split
    · exact h0.begin
    · exact ⟨g, Le.refl _, h0⟩
  obtain ⟨g1, a1, h1⟩ := h1
  unfold Co.submit; dsimp only
  generalize (if c.n = 1 ∧ c.lead = false then St.begin ⟨c, [], []⟩ else ⟨c, [], []⟩) = s at *
  have he1 : may ⟨id, 0, row⟩ = true → EOK g1.S ⟨id, 0, row⟩ := fun h => (he h).mono a1.S
  have h2 := h1.wanted he1
  split
  · next hl =>
    obtain ⟨g2, a2, h3⟩ := h2.grow (wanted_lead _ _ hl)
    exact ⟨g2, a1.trans a2, h3⟩
  · split
    · next hm =>
      have hE := he1 hm.1
      refine ⟨g1, a1, h2.out _ fun hne => ?_⟩
      have hc2 := h2.cok
      have hmn := hc2.me
      generalize hw : (s.c.wanted ⟨id, 0, row⟩).1 = w at *
      have hm : w.view % w.n < g1.n := by have := hc2.n; simp only at this; rw [this]; exact Nat.mod_lt _ h1.gok.pos
      simp only at hmn
      refine ⟨⟨by show (0 : Int) ≤ (w.me : Int); omega, by show (w.me : Int) < _; omega⟩, ⟨by show (0 : Int) ≤ ((w.view % w.n : Nat) : Int); omega, by show ((w.view % w.n : Nat) : Int) < _; omega⟩, hne, by show (1 : Int) ≤ 1 ∧ (1 : Int) ≤ 6; decide, hc2.most, Nat.zero_le _, Nat.zero_le _, Nat.zero_le _, LOK.sing hE, rfl, fun h => by exact absurd h (by show ¬ (1 : Int) = _; decide), fun h => by rcases h with h | h <;> exact absurd h (by show ¬ (1 : Int) = _; decide), fun h => by exact absurd h (by show ¬ (1 : Int) = _; decide), fun h => by exact absurd h (by show ¬ (1 : Int) = _; decide)⟩
    · exact ⟨g1, a1, h2⟩
theorem SOK.quiet (h : SOK g0 r d0 g s) (k : Nat) : SOK g0 r d0 g { s with c := { s.c with quiet := k } } := by
  have hc := h.cok
  exact h.mem ⟨hc.me, hc.n, hc.view, hc.most, hc.last, hc.cur, hc.later, hc.agr, hc.comm, hc.got, hc.held, hc.lead, hc.wait, hc.waitn⟩ rfl
theorem tick_ok (G : GOK g) {c : Co} (hc : COK g c) : ∃ g', Le g g' ∧ SOK g c.me (base c) g' c.tick := by
  have h0 := SOK.init G hc
  unfold Co.tick; dsimp only
  split
  · next hl => exact h0.grow hl
  · have h1 := h0.quiet (c.quiet + 1)
    split
    · exact h1.begin
    · split
      · exact h1.vote
      · exact ⟨g, Le.refl _, h1⟩
theorem SOK.fin (h : SOK g0 r d0 g s) {m : Mg} (hm : MOK g m) (hk : m.kind = 4 ∨ m.kind = 6) (hv : m.view = s.c.view) : SOK g0 r d0 g (s.fin m) := by
  have hc := h.cok
  unfold St.fin
  split
  · next he =>
    obtain ⟨_, L, h1, h2, h3⟩ := hm.lead hk
    have hcur := hc.cur
    rw [he] at hcur
    obtain ⟨_, _, L', h4, h5, _⟩ := h.gok.acc _ hc.me _ _ hcur
    rw [h1] at h4; cases h4
    have hC : Comm g s.c.last (s.c.list.take (min m.commit s.c.list.length)) := by
      rw [he]
      refine h3.mono (Nat.le_refl _) ?_
      exact List.prefix_of_prefix_length_le ((List.take_prefix _ _).trans h5) (List.take_prefix _ _) (by rw [List.length_take, List.length_take]; omega)
    refine h.mem ⟨hc.me, hc.n, hc.view, hc.most, hc.last, hc.cur, hc.later, ?_, ?_, hc.got, hc.held, hc.lead, hc.wait, hc.waitn⟩ rfl
    · have := hc.agr
      show max s.c.agreed (min m.commit s.c.list.length) ≤ s.c.list.length
      omega
    · show Comm g s.c.last (s.c.list.take (max s.c.agreed (min m.commit s.c.list.length)))
      rcases Nat.le_total s.c.agreed (min m.commit s.c.list.length) with h | h
      · rw [Nat.max_eq_right h]; exact hC
      · rw [Nat.max_eq_left h]; exact hc.comm
  · exact h
theorem SOK.hold (hu : SOK g0 r d0 g s) {m : Mg} (hM : MOK g m) (hk : m.kind = 4 ∨ m.kind = 6) (hv : m.view = s.c.view) (hl : s.c.last = s.c.view) (hmr : m.from_ ≠ (r : Int)) : SOK g0 r d0 g (s.hold m) := by
  have hcu := hu.cok
  have hmu := hu.me
  have hrn := hcu.me
  have hcur := hcu.cur
  rw [hl] at hcur
  unfold St.hold
  refine SOK.fin (hu.out _ fun hne' => ?_) hM hk (by rw [out_c]; exact hv)
  refine ⟨⟨by show (0 : Int) ≤ (s.c.me : Int); omega, by show (s.c.me : Int) < _; omega⟩, hM.from_, ?_, by show (1 : Int) ≤ 5 ∧ (5 : Int) ≤ 6; decide, hcu.most, Nat.zero_le _, (hcu.lok hu.gok).len, Nat.zero_le _, LOK.nil, rfl, fun h => by exact absurd h (by show ¬ (5 : Int) = _; decide), fun h => by rcases h with h | h <;> exact absurd h (by show ¬ (5 : Int) = _; decide), fun h => by exact absurd h (by show ¬ (5 : Int) = _; decide), fun _ => ⟨s.c.list, ?_, Nat.le_refl _⟩⟩
  · show m.from_ ≠ (s.c.me : Int); rw [hmu]; exact hmr
  · show g.acc ((s.c.me : Int)).toNat s.c.view = _
    rw [Int.toNat_natCast]; exact hcur
theorem SOK.heard (h : SOK g0 r d0 g s) {m : Mg} (hm : MOK g m) (hk : m.kind = 4 ∨ m.kind = 6) (hv : m.view = s.c.view) (ht : m.to = (r : Int)) (hf : m.from_ = ((s.c.view % s.c.n : Nat) : Int)) : ∃ g', Le g g' ∧ SOK g0 r d0 g' (s.heard m) := by
  have hc := h.cok
  have hn := hc.n
  rw [hn] at hf
  unfold St.heard
  split
  · next h4 =>
    split
    · exact ⟨g, Le.refl _, h⟩
    · next hb =>
      obtain ⟨L, x1, x2, x3⟩ := hm.lays h4
      have hlok := hc.lok h.gok
      have hbp := (begins_iff hm.ents.z (hlok.z.take _)).1 (by cases hx : begins m.ents (s.c.list.take s.c.agreed); exact absurd hx hb; rfl)
      have hne : s.c.view % g.n ≠ r := fun e => hm.ne (by rw [ht, hf, e])
      have hmr : m.from_ ≠ (r : Int) := fun e => hm.ne (by rw [ht, e])
      split
      · next hlt =>
        rw [hv] at hlt x1 x3
        obtain ⟨g', a, h5⟩ := h.take hm.ents (fun he => by
          have hcur := hc.cur
          rw [he] at hcur
          obtain ⟨_, _, L', y1, y2, _⟩ := h.gok.acc _ hc.me _ _ hcur
          rw [x1] at y1; cases y1
          exact List.prefix_of_prefix_length_le y2 x2 (by omega)) hbp (.inr ⟨hne, L, x1, x2, x3⟩)
        rw [← hv] at h5
        exact ⟨g', a, h5.hold (hm.le a) hk (by rw [take_c]; exact hv) (by rw [take_c]; exact hv) hmr⟩
      · next hlt =>
        have := hc.last
        exact ⟨g, Le.refl _, h.hold hm hk hv (by omega) hmr⟩
  · exact ⟨g, Le.refl _, h.fin hm hk hv⟩
theorem SOK.hear (h : SOK g0 r d0 g s) {m : Mg} (hm : MOK g m) (hk : m.kind = 4 ∨ m.kind = 6) (hv : m.view = s.c.view) (ht : m.to = (r : Int)) (hf : m.from_ = ((s.c.view % s.c.n : Nat) : Int)) : ∃ g', Le g g' ∧ SOK g0 r d0 g' (s.hear m) :=
  (h.quiet 0).heard hm hk hv ht hf
theorem get_ok (G : GOK g) {c : Co} (hc : COK g c) {m : Mg} (hm : MOK g m) : ∃ g', Le g g' ∧ SOK g c.me (base c) g' (c.get m) := by
  have h0 := SOK.init G hc
  unfold Co.get; dsimp only
  split
  · exact ⟨g, Le.refl _, h0⟩
  next hodd =>
  unfold Co.odd at hodd
  simp only [not_or, Classical.not_not] at hodd
  obtain ⟨_, ht, _, _, hmv, _⟩ := hodd
  split
  · exact SOK.wants m.ents h0 fun e he => hm.ents.all e he
  next hk1 =>
  have h1 : ∃ g', Le g g' ∧ SOK g c.me (base c) g' (if c.view < m.view then (St.promise ⟨c, [], []⟩ m.view).vote else ⟨c, [], []⟩) ∧ m.view ≤ (if c.view < m.view then (St.promise ⟨c, [], []⟩ m.view).vote else (⟨c, [], []⟩ : St)).c.view := by
    split
    · next hlt =>
      obtain ⟨g1, a1, h1⟩ := h0.promise (v := m.view) (by show c.view ≤ _; omega) (by omega)
      obtain ⟨g2, a2, h2⟩ := h1.vote
      refine ⟨g2, a1.trans a2, h2, ?_⟩
      rw [vote_view]; exact Nat.le_refl _
    · next hlt => exact ⟨g, Le.refl _, h0, by show _ ≤ c.view; omega⟩
  obtain ⟨g1, a1, h1, h2⟩ := h1
  generalize (if c.view < m.view then (St.promise ⟨c, [], []⟩ m.view).vote else (⟨c, [], []⟩ : St)) = s at *
  split
  · exact ⟨g1, a1, h1⟩
  next hlt =>
  have hv : m.view = s.c.view := by omega
  have hM := hm.le a1
  have hc1 := h1.cok
  have hn1 := hc1.n
  have hme1 := h1.me
  have hfl : m.from_.toNat < g1.n := by have := hM.from_; omega
  split
  · next hk =>
    split
    · next hl =>
      obtain ⟨g2, a2, h3⟩ := h1.count (q := m.from_.toNat) (v := ⟨m.last, m.ents⟩) hfl (by rw [← hv]; exact hM.vote hk) (by rw [← hn1, hl.1, hme1])
      exact ⟨g2, a1.trans a2, h3⟩
    · exact ⟨g1, a1, h1⟩
  split
  · next hk =>
    split
    · next hl =>
      obtain ⟨y1, y2⟩ := hc1.lead hl
      obtain ⟨l, z1, z2⟩ := hM.hold hk
      have hC : COK g1 { s.c with held := upd s.c.held m.from_.toNat (some (max ((s.c.held m.from_.toNat).getD 0) m.op)) } := by
        refine ⟨hc1.me, hc1.n, hc1.view, hc1.most, hc1.last, hc1.cur, hc1.later, hc1.agr, hc1.comm, hc1.got, fun q x hx => ?_, hc1.lead, hc1.wait, hc1.waitn⟩
        have hx' : upd s.c.held m.from_.toNat (some (max ((s.c.held m.from_.toNat).getD 0) m.op)) q = some x := hx
        unfold upd at hx'
        split at hx'
        · next e =>
          subst e
          have hx := (Option.some.inj hx').symm
          refine ⟨hfl, l, by rw [← hv]; exact z1, ?_⟩
          cases hh : s.c.held m.from_.toNat with
          | none => rw [hh] at hx; simp only [Option.getD_none] at hx; omega
          | some h =>
            rw [hh] at hx; simp only [Option.getD_some] at hx
            obtain ⟨_, l', w1, w2⟩ := hc1.held _ _ hh
            rw [← hv, z1] at w1; cases w1
            omega
        · exact hc1.held q x hx'
      refine ⟨g1, a1, h1.mem (settle_ok h1.gok hC y1 y2) ?_⟩
      rw [(settle_same _).2.2.2.2.2.2.2]; rfl
    · exact ⟨g1, a1, h1⟩
  split
  · next hk =>
    split
    · next hf =>
      obtain ⟨g2, a2, h3⟩ := h1.hear hM hk hv ht hf
      exact ⟨g2, a1.trans a2, h3⟩
    · exact ⟨g1, a1, h1⟩
  · exact ⟨g1, a1, h1⟩
end Ag
end Go.Proofs.Ytbciofnejefkiaa

namespace Go.Proofs.Ytbciofnejefkiaa
set_option linter.unusedSimpArgs false
set_option linter.unusedVariables false

/-! Whatever happens in the law's world, no promise is broken. -/
namespace Ag
structure WG (g : Gh) (w : W) : Prop where
  gok : GOK g
  n : g.n = w.n
  n7 : w.n ≤ 7
  S : g.S = w.ids
  c : ∀ r, r < w.n → COK g (w.c r) ∧ (w.c r).me = r
  disk : ∀ r, r < w.n → (Co.new r w.n).replay (w.saved r) = some (base (w.c r))
  l : ∀ m ∈ w.l, MOK g m
  best : ∃ v, Comm g v w.best
variable {g g' : Gh} {w : W}

/-! Messages are good. -/
theorem encR_len' (l : List Int) : (encR l).length ≤ 11 * l.length := by
  induction l with
  | nil => simp [encR]
  | cons v l ih => have := encU_len 10 (zig v); simp only [encR, List.flatMap_cons, List.length_append, List.length_cons] at ih ⊢; omega
theorem encE_len' (e : En) : (encE e).length ≤ 33 + 11 * e.row.length := by
  have h1 := encU_len 10 e.id
  have h2 := encU_len 10 e.view
  have h3 := encU_len 10 e.row.length
  have h4 := encR_len' e.row
  simp only [encE, List.length_append]; omega
theorem encEs_len' : ∀ (l : List En), (∀ e ∈ l, e.row.length ≤ 16) → (encEs l).length ≤ 220 * l.length
  | [], _ => by simp [encEs]
  | e :: l, h => by
    have h1 := h e (List.mem_cons_self)
    have h2 := encEs_len' l fun x hx => h x (List.mem_cons_of_mem _ hx)
    have h3 := encE_len' e
    have h4 := encU_len 10 (encE e).length
    have h5 : encEs (e :: l) = (encU 10 (encE e).length ++ encE e) ++ encEs l := by simp [encEs, enc1]
    rw [h5, List.length_append, List.length_append, List.length_cons]; omega
theorem encUs_len' (l : List Nat) : (encUs l).length ≤ 11 * l.length := by
  induction l with
  | nil => simp [encUs]
  | cons v l ih => have := encU_len 10 v; simp only [encUs, List.flatMap_cons, List.length_append, List.length_cons] at ih ⊢; omega
theorem MOK.good {m : Mg} (h : MOK g m) (h7 : g.n ≤ 7) : m.good := by
  have hr : ∀ e ∈ m.ents, e.row.length ≤ 16 := fun e he => (h.ents.all e he).row
  refine ⟨⟨by have := h.kind; omega, by have := h.from_; omega, by have := h.to; omega, h.ents.len, by rw [h.body]; simp, ?_⟩, ?_⟩
  · unfold wide
    rw [List.any_eq_false]
    intro e he
    rw [decide_eq_true_eq]
    have := hr e he; omega
  · have h1 := encR_len' [m.kind, m.from_, m.to]
    have h2 := encUs_len' [m.view, m.last, m.op, m.commit, m.ents.length]
    have h3 := encEs_len' m.ents hr
    have h4 := encU_len 10 m.body.length
    have h5 := h.ents.len
    have h6 : m.body.length = 0 := by rw [h.body]; rfl
    simp only [List.length_cons, List.length_nil] at h1 h2
    simp only [textB, List.length_append]
    omega
theorem MOK.okm {m : Mg} (h : MOK g m) (h7 : g.n ≤ 7) : m.Ok := by
  have h1 := h.kind
  have h2 := h.from_
  have h3 := h.to
  have h4 := h.view
  have h5 := h.last
  have h6 := h.op
  have h8 := h.commit
  unfold mostView at h4
  exact ⟨by unfold b64; omega, by unfold b64; omega, by unfold b64; omega, by omega, by omega, by omega, by omega, fun e he => (h.ents.all e he).ok⟩

/-! What is told. -/
theorem toldL_ok {ids : List (Nat × List Int)} : ∀ (l pre b : List En), uniq (pre ++ l) = true → (∀ e ∈ l, (e.id, e.row) ∈ ids) → ((pre ++ l <+: b) ∨ (b <+: pre ++ l ∧ pre.length ≤ b.length)) →
    ∃ b', toldL ids pre l b = some b' ∧ (b' = b ∨ b' = pre ++ l)
  | [], pre, b, _, _, _ => ⟨b, rfl, .inl rfl⟩
  | e :: l, pre, b, hu, hm, hp => by
    have e0 : pre ++ e :: l = (pre ++ [e]) ++ l := by simp
    have hm' : ∀ x ∈ l, (x.id, x.row) ∈ ids := fun x hx => hm x (List.mem_cons_of_mem _ hx)
    unfold toldL
    cases hb : b[pre.length]? with
    | some y =>
      have hy : y = e := by
        rcases hp with ⟨t, rfl⟩ | ⟨⟨t, ht⟩, _⟩
        · have : ((pre ++ e :: l) ++ t)[pre.length]? = some e := by simp
          rw [this] at hb; exact (Option.some.inj hb).symm
        · have hlt := (List.getElem?_eq_some_iff.1 hb).1
          have : (b ++ t)[pre.length]? = some y := by rw [List.getElem?_append_left hlt]; exact hb
          rw [ht] at this
          have h2 : (pre ++ e :: l)[pre.length]? = some e := by simp
          rw [h2] at this; exact (Option.some.inj this).symm
      subst hy
      dsimp only
      rw [if_neg (by simp)]
      have hlt := (List.getElem?_eq_some_iff.1 hb).1
      obtain ⟨b', h1, h2⟩ := toldL_ok l (pre ++ [y]) b (by rw [← e0]; exact hu) hm' (by
        rw [← e0]
        rcases hp with h | ⟨h, _⟩
        · exact .inl h
        · exact .inr ⟨h, by rw [List.length_append, List.length_singleton]; omega⟩)
      exact ⟨b', h1, by rw [e0]; exact h2⟩
    | none =>
      have hle : b.length ≤ pre.length := List.getElem?_eq_none_iff.1 hb
      have hbp : b = pre := by
        rcases hp with h | ⟨h, h2⟩
        · have := h.length_le; rw [List.length_append, List.length_cons] at this; omega
        · have h3 : pre <+: pre ++ e :: l := List.prefix_append _ _
          exact (List.prefix_of_prefix_length_le h h3 hle).eq_of_length (by omega)
      subst hbp
      dsimp only
      have hid : hasId b e.id = false := by
        rw [e0] at hu
        have h1 := (uniq_app hu).1
        cases hx : hasId b e.id with
        | false => rfl
        | true =>
          exfalso
          obtain ⟨x, hx1, hx2⟩ := hasId_get.1 hx
          clear hb hle hp hu e0
          induction b with
          | nil => cases hx1
          | cons a b ih =>
            simp only [List.cons_append, uniq, hasId_app, Bool.and_eq_true, Bool.not_eq_true', Bool.or_eq_false_iff] at h1
            rcases List.mem_cons.1 hx1 with rfl | hx1
            · have := h1.1.2; simp [hasId, hx2] at this
            · exact ih h1.2 (hasId_get.2 ⟨x, hx1, hx2⟩) hx1
      rw [if_pos ⟨by
        rw [List.any_eq_true]
        exact ⟨_, hm e (List.mem_cons_self), by simp⟩, hid⟩]
      obtain ⟨b', h1, h2⟩ := toldL_ok l (b ++ [e]) (b ++ [e]) (by rw [← e0]; exact hu) hm' (.inr ⟨by rw [← e0, e0]; exact List.prefix_append _ _, Nat.le_refl _⟩)
      refine ⟨b', h1, .inr ?_⟩
      rcases h2 with rfl | rfl
      · cases l with
        | nil => rfl
        | cons a l =>
          exfalso
          -- the list goes on: so does what is told
          have : ∀ (l pre b b' : List En), toldL ids pre l b = some b' → b <+: b' ∧ pre.length + l.length ≤ max b'.length (pre.length + 0) ∨ b.length < pre.length := by
            intro l
            induction l with
            | nil =>
              intro pre b b' h
              cases h
              rcases Nat.lt_or_ge b.length pre.length with h | h
              · exact .inr h
              · exact .inl ⟨List.prefix_refl _, by simp; omega⟩
            | cons a l ih =>
              intro pre b b' h
              rcases Nat.lt_or_ge b.length pre.length with h' | h'
              · exact .inr h'
              left
              unfold toldL at h
              cases hb : b[pre.length]? with
              | some y =>
                rw [hb] at h; dsimp only at h
                split at h
                · cases h
                · have hlt := (List.getElem?_eq_some_iff.1 hb).1
                  rcases ih _ _ _ h with ⟨h1, h2⟩ | h1
                  · refine ⟨h1, ?_⟩
                    have := h1.length_le
                    simp only [List.length_append, List.length_cons, List.length_nil] at h2 ⊢; omega
                  · simp only [List.length_append, List.length_cons, List.length_nil] at h1; omega
              | none =>
                have hle : b.length ≤ pre.length := List.getElem?_eq_none_iff.1 hb
                rw [hb] at h; dsimp only at h
                split at h
                · rcases ih _ _ _ h with ⟨h1, h2⟩ | h1
                  · refine ⟨(List.prefix_append _ _).trans h1, ?_⟩
                    have := h1.length_le
                    simp only [List.length_append, List.length_cons, List.length_nil] at h2 this ⊢; omega
                  · simp only [List.length_append, List.length_cons, List.length_nil] at h1; omega
                · cases h
          rcases this _ _ _ _ h1 with ⟨_, h3⟩ | h3
          · simp only [List.length_append, List.length_cons, List.length_nil] at h3; omega
          · omega
      · rw [e0]
theorem told_ok (h : WG g w) {r : Nat} (hr : r < w.n) : ∃ b, w.told r = some { w with best := b } ∧ WG g { w with best := b } := by
  obtain ⟨hc, hm⟩ := h.c r hr
  obtain ⟨v, hb⟩ := h.best
  have hl := hc.comm
  have hlo := hl.lok h.gok
  have key : ∃ b, toldL w.ids [] ((w.c r).list.take (w.c r).agreed) w.best = some b ∧ (b = w.best ∨ b = (w.c r).list.take (w.c r).agreed) :=
    toldL_ok _ [] w.best hlo.uniq (fun e he => by rw [← h.S]; exact (hlo.all e he).mem) (by
      rw [List.nil_append]
      rcases hl.chain h.gok hb with h1 | h1
      · exact .inl h1
      · exact .inr ⟨h1, Nat.zero_le _⟩)
  obtain ⟨b, h1, h2⟩ := key
  refine ⟨b, ?_, ⟨h.gok, h.n, h.n7, h.S, h.c, h.disk, h.l, ?_⟩⟩
  · unfold W.told
    dsimp only
    rw [h1, Option.bind_some, if_pos hlo.len]
  · rcases h2 with rfl | rfl
    · exact ⟨v, hb⟩
    · exact ⟨_, hl⟩
theorem open_ok (G : GOK g) {c : Co} (hc : COK g c) {l : List Rd} (hl : (Co.new c.me c.n).replay l = some (base c)) : ∃ d, open_ c.me c.n l = some d ∧ COK g d ∧ base d = base c := by
  unfold open_
  rw [hl, Option.map_some]
  by_cases h1 : c.n = 1
  · rw [if_pos h1]
    refine ⟨_, rfl, ?_, rfl⟩
    have hb := hc.base G
    refine ⟨hb.me, hb.n, hb.view, hb.most, hb.last, hb.cur, hb.later, Nat.le_refl _, ?_, hb.got, hb.held, hb.lead, hb.wait, hb.waitn⟩
    show Comm g c.last (c.list.take c.list.length)
    rw [List.take_length]
    refine ⟨c.last, Nat.le_refl _, fun _ => true, quo_all G.pos, fun p hp _ => ⟨c.list, ?_, List.prefix_refl _⟩⟩
    have := hc.me
    have hn := hc.n
    have : p = c.me := by omega
    rw [this]; exact hc.cur
  · rw [if_neg h1]
    exact ⟨_, rfl, hc.base G, rfl⟩
theorem addL_mem {l : List Mg} : ∀ {s : List Mg} {m : Mg}, m ∈ s.foldl addL l → m ∈ l ∨ m ∈ s := by
  intro s
  induction s generalizing l with
  | nil => intro m h; exact .inl h
  | cons a s ih =>
    intro m h
    simp only [List.foldl_cons] at h
    rcases ih h with h | h
    · unfold addL at h
      split at h
      · rcases List.mem_append.1 h with h | h
        · exact .inl h
        · rw [List.mem_singleton.1 h]; exact .inr (List.mem_cons_self)
      · exact .inl h
    · exact .inr (List.mem_cons_of_mem _ h)
theorem upd_same {α : Type} (f : Nat → α) (i : Nat) (a : α) : upd f i a i = a := if_pos rfl
theorem upd_other {α : Type} (f : Nat → α) {i j : Nat} (a : α) (h : j ≠ i) : upd f i a j = f j := if_neg h
/-- A replica's part turns; it has been saved so far. -/
theorem WG.turn (h : WG g w) {r : Nat} (hr : r < w.n) (a : Le g g') (o : Only r g g') (G : GOK g') {c : Co} (hc : COK g' c) (hm : c.me = r) {sv : List Rd} (hd : (base (w.c r)).replay sv = some (base c)) :
    WG g' { w with c := upd w.c r c, saved := upd w.saved r (w.saved r ++ sv) } where
  gok := G
  n := a.n.trans h.n
  n7 := h.n7
  S := o.S.trans h.S
  c p hp := by
    show COK g' (upd w.c r c p) ∧ (upd w.c r c p).me = p
    by_cases e : p = r
    · rw [e, upd_same]; exact ⟨hc, hm⟩
    · obtain ⟨h1, h2⟩ := h.c p hp
      rw [upd_other _ _ e]; exact ⟨h1.le a o (by rw [h2]; exact e), h2⟩
  disk p hp := by
    show (Co.new p w.n).replay (upd w.saved r (w.saved r ++ sv) p) = some (base (upd w.c r c p))
    by_cases e : p = r
    · rw [e, upd_same, upd_same, replay_app, h.disk r hr, Option.bind_some, hd]
    · rw [upd_other _ _ e, upd_other _ _ e]; exact h.disk p hp
  l m hm := (h.l m hm).le a
  best := let ⟨v, hb⟩ := h.best; ⟨v, hb.le a⟩
theorem step_ok (h : WG g w) {r : Nat} (hr : r < w.n) {s : St} (hs : SOK g r (base (w.c r)) g' s) : ∃ w' g'', w.step r s = some w' ∧ WG g'' w' ∧ w'.n = w.n ∧ w'.ids = w.ids := by
  unfold W.step
  dsimp only
  cases hcut : w.cut r with
  | some k =>
    obtain ⟨h', c, a, o, G, hc, hm, hd⟩ := hs.part k
    have hw := h.turn hr a o G hc hm hd
    have hn : c.n = w.n := hc.n.trans (a.n.trans h.n)
    obtain ⟨d, d1, d2, d3⟩ := open_ok G hc (l := w.saved r ++ s.save.take k) (by rw [hm, hn, replay_app, h.disk r hr, Option.bind_some, hd])
    rw [hm, hn] at d1
    have hdm : d.me = r := (congrArg Co.me d3).trans hm
    have hw2 := h.turn hr a o G d2 hdm (sv := s.save.take k) (by rw [hd, d3])
    have ho : W.opened { w with c := upd w.c r s.c, cut := upd w.cut r none, saved := upd w.saved r (w.saved r ++ s.save.take k) } r = some { w with c := upd (upd w.c r s.c) r d, cut := upd w.cut r none, saved := upd w.saved r (w.saved r ++ s.save.take k) } := by
      unfold W.opened
      dsimp only
      rw [upd_same, d1]; rfl
    have he : upd (upd w.c r s.c) r d = upd w.c r d := by
      funext p; unfold upd; split <;> rfl
    rw [he] at ho
    have hw3 : WG h' { w with c := upd w.c r d, cut := upd w.cut r none, saved := upd w.saved r (w.saved r ++ s.save.take k) } := ⟨hw2.gok, hw2.n, hw2.n7, hw2.S, hw2.c, hw2.disk, hw2.l, hw2.best⟩
    obtain ⟨b, t1, t2⟩ := told_ok hw3 hr
    refine ⟨_, h', ?_, t2, rfl, rfl⟩
    dsimp only
    rw [ho, Option.bind_some, t1]
  | none =>
    dsimp only
    have hw := h.turn hr hs.le hs.only hs.gok hs.cok hs.me hs.disk
    have hn : g'.n = w.n := hs.le.n.trans h.n
    rw [if_pos (fun m hm => by
      obtain ⟨h1, h2⟩ := hs.send m hm
      exact ⟨h1.good (by rw [hn]; exact h.n7), h2, by rw [← h2]; exact h1.ne, h1.to.1, by have := h1.to.2; rw [hn] at this; exact this⟩)]
    have hw3 : WG g' { w with c := upd w.c r s.c, saved := upd w.saved r (w.saved r ++ s.save), l := s.send.foldl addL w.l } := ⟨hw.gok, hw.n, hw.n7, hw.S, hw.c, hw.disk, fun m hm => by
      rcases addL_mem hm with h | h
      · exact hw.l m h
      · exact (hs.send m h).1, hw.best⟩
    obtain ⟨b, t1, t2⟩ := told_ok hw3 hr
    exact ⟨_, g', t1, t2, rfl, rfl⟩
theorem WG.out (h : WG g w) (k : Nat) : WG g (w.out k) := ⟨h.gok, h.n, h.n7, h.S, h.c, h.disk, fun m hm => by
  rcases List.mem_append.1 hm with hm | hm
  · exact h.l m (List.mem_of_mem_take hm)
  · exact h.l m (List.mem_of_mem_drop hm), h.best⟩
/-- More may have been submitted. -/
theorem WG.more (h : WG g w) (x : Nat × List Int) : WG { g with S := w.ids ++ [x] } { w with ids := w.ids ++ [x] } := by
  have a : Le g { g with S := w.ids ++ [x] } := ⟨rfl, fun _ => Nat.le_refl _, fun _ _ _ => rfl, fun _ _ l hl => ⟨l, hl, List.prefix_refl _⟩, fun _ _ _ => rfl, fun y hy => by show y ∈ w.ids ++ [x]; rw [← h.S]; exact List.mem_append_left _ hy⟩
  have G : GOK { g with S := w.ids ++ [x] } := by
    refine ⟨h.gok.pos, h.gok.zero, h.gok.ini0, fun p hp v l hl => ?_, fun v L hv hL => (h.gok.elec v L hv hL).le a rfl⟩
    obtain ⟨h1, h2, h3⟩ := h.gok.acc p hp v l hl
    exact ⟨h1, h2.mono a.S, h3⟩
  refine ⟨G, h.n, h.n7, rfl, fun r hr => ?_, h.disk, fun m hm => (h.l m hm).le a, let ⟨v, hb⟩ := h.best; ⟨v, hb.le a⟩⟩
  obtain ⟨hc, hm⟩ := h.c r hr
  refine ⟨⟨hc.me, hc.n, hc.view, hc.most, hc.last, hc.cur, hc.later, hc.agr, hc.comm.le a, fun q y hy => ?_, hc.held, hc.lead, fun e he => (hc.wait e he).mono a.S, hc.waitn⟩, hm⟩
  obtain ⟨x1, x2, x3⟩ := hc.got q y hy
  exact ⟨x1, x2.le a, x3⟩
structure Act.Ok (a : Act) : Prop where
  id : a.id < 2 ^ 64
  row : ∀ v ∈ a.row, b64 v
theorem opened_act (h : WG g w) {r : Nat} (hr : r < w.n) : ∃ d, w.opened r = some { w with c := upd w.c r d } ∧ WG g { w with c := upd w.c r d } := by
  obtain ⟨hc, hm⟩ := h.c r hr
  have hcn : (w.c r).n = w.n := hc.n.trans h.n
  have hd := h.disk r hr
  obtain ⟨d, d1, d2, d3⟩ := open_ok h.gok hc (l := w.saved r) (by rw [hm, hcn]; exact hd)
  rw [hm, hcn] at d1
  refine ⟨d, by unfold W.opened; rw [d1]; rfl, ⟨h.gok, h.n, h.n7, h.S, fun p hp => ?_, fun p hp => ?_, h.l, h.best⟩⟩
  · show COK g (upd w.c r d p) ∧ (upd w.c r d p).me = p
    by_cases e : p = r
    · rw [e, upd_same]; exact ⟨d2, (congrArg Co.me d3).trans hm⟩
    · rw [upd_other _ _ e]; exact h.c p hp
  · show (Co.new p w.n).replay (w.saved p) = some (base (upd w.c r d p))
    by_cases e : p = r
    · rw [e, upd_same, d3]; exact hd
    · rw [upd_other _ _ e]; exact h.disk p hp
theorem begun_ok {n : Nat} (h1 : 0 < n) (h7 : n ≤ 7) : WG ⟨n, fun _ => 0, fun _ v => if v = 0 then some [] else none, fun _ => 0, []⟩ (W.begun n) := by
  have hz : ∀ v l, (if v = 0 then some ([] : List En) else none) = some l → v = 0 ∧ l = [] := fun v l h => by
    split at h
    · next e => exact ⟨e, (Option.some.inj h).symm⟩
    · cases h
  have G : GOK ⟨n, fun _ => 0, fun _ v => if v = 0 then some [] else none, fun _ => 0, []⟩ := by
    refine ⟨h1, fun p _ => ⟨[], rfl⟩, rfl, fun p hp v l hl => ?_, fun v L hv hL => ?_⟩
    · obtain ⟨rfl, rfl⟩ := hz v l hl
      exact ⟨Nat.le_refl _, LOK.nil, [], rfl, List.prefix_refl _, Nat.le_refl _⟩
    · obtain ⟨rfl, _⟩ := hz v L hL
      exact absurd hv (Nat.lt_irrefl _)
  refine ⟨G, rfl, h7, rfl, fun r hr => ⟨?_, rfl⟩, fun r hr => rfl, fun m hm => (by cases hm), ⟨0, Comm.nil G 0⟩⟩
  exact ⟨hr, rfl, rfl, Nat.zero_le _, Nat.le_refl _, rfl, fun v hv => if_neg (by have : 0 < v := hv; omega), Nat.le_refl _, Comm.nil G 0, fun q x hx => (by cases hx), fun q x hx => (by cases hx), fun hl => (by cases hl), fun e he => (by cases he), Nat.zero_le _⟩
end Ag
end Go.Proofs.Ytbciofnejefkiaa

namespace Go.Proofs.Ytbciofnejefkiaa
open Go Go.Am Go.Proofs
set_option linter.unusedSimpArgs false
set_option linter.unusedVariables false
set_option maxRecDepth 20000
set_option maxHeartbeats 4000000

/-! Lists of inputs. -/
abbrev lsE (l : List En) : AV := .sls l.length (l.flatMap En.cells)
abbrev uI (v : Nat) : AV := .raw (.int .u64 (v : Int))
abbrev bB (b : Bool) : AV := .raw (.bool b)
theorem has1_calls (H : AHeap) (e : En) (i : Nat) : ACalls Try.prog 68 [.agg e.cells, .pce [uI i] 0] H fun r H' => r = bB (decide (e.id = i)) ∧ H' = H := by
  refine acalls_of_aw2 Try.func68 rfl (by decide) ?_
  (first | focus (refine yy4 ?_; refine zb4 rfl rfl rfl ?_; refine yy24 ?_; refine yy35 ?_; refine yy58 ?_; refine yy49 ?_; refine yy9 ?_; rotate_left) | fail)
  exact ⟨.inl rfl, _, _, _, Ent.refl _ _, ret1 rfl rfl, rfl, rfl⟩
theorem hasId_snoc {l : List En} {i k : Nat} {e : En} (h : l[i]? = some e) : Ag.hasId (l.take (i + 1)) k = (Ag.hasId (l.take i) k || decide (e.id = k)) := by
  rw [List.take_add_one, h]; simp [Ag.hasId]
theorem hasId_mem {l : List En} {e : En} {k : Nat} (h : e ∈ l) (hw : e.id = k) : Ag.hasId l k = true := List.any_eq_true.2 ⟨e, h, decide_eq_true hw⟩
theorem IndexH_calls (H : AHeap) (l : List En) (q : Nat) (hl : l.length ≤ 1000000000) : ACalls Try.prog 86 [lsE l, .fnc (.func 68) [] [.pce [uI q] 0]] H fun r H' => (∃ k : Int, r = mI k ∧ decide (0 ≤ k) = Ag.hasId l q) ∧ H' = H := by
  refine acalls_of_aw2 Try.func86 rfl (by decide) ?_
  (first | focus (refine yy4 ?_; refine yy6 ?_; refine yy12 ?_; refine yy44 ?_; refine yy56 ?_; rotate_left) | fail)
  refine aw_loop (fun mm R' H2 => ∃ (i : Nat), H2 = H ∧ R' = [(0, lsE l), (1, .fnc (.func 68) [] [.pce [uI q] 0]), (7, .raw (.int .i64 (l.length : Int))), (8, .raw (.int .i64 (i : Int)))] ∧ Ag.hasId (l.take i) q = false ∧ i + mm = l.length) ?_ ?_
  · exact ⟨l.length, _, _, auto_ent, 0, rfl, rfl, rfl, by omega⟩
  rintro mm R0 H2 ⟨i, rfl, rfl, hw, hi⟩
  by_cases hlt : i < l.length
  · have hg : l[i]? = some l[i] := List.getElem?_eq_getElem hlt
    have hm := List.getElem_mem hlt
    have hs := hasId_snoc (k := q) hg
    have hge := ent_get hg
    generalize l[i] = e at *
    (first | focus (refine yy10 ?_; refine aw_condp rfl (fun hc => ?_) (fun hc => ?_); refine yy26 ?_; refine yy2 ?_; refine yy24 ?_; refine yy106 ?_; refine yy31 ?_; refine yy2 ?_; refine yy63 ?_; refine yy99 ?_; (((refine awl_callcv rfl rfl auto_wl (has1_calls _ e q) (fun r H' hpost => ?_); obtain ⟨rfl, rfl⟩ := hpost))); refine yy3 ?_; refine aw_condp rfl (fun hc => ?_) (fun hc => ?_); refine yy50 ?_; refine yy9 ?_; refine yy86 ?_; refine yy51 ?_; rotate_left; refine aw_skip ?_; refine yy23 ?_; rotate_left; exact absurd hc auto_no) | fail)
    all_goals first
      | (exfalso; omega)
      | exact ⟨.inl rfl, _, _, _, Ent.refl _ _, ret1 rfl rfl, ⟨_, rfl, by rw [hasId_mem hm hc]; exact decide_eq_true (by omega)⟩, rfl⟩
      | exact ⟨mm - 1, _, _, by omega, auto_ent, i + 1, rfl, rfl, by rw [hs, hw, decide_eq_false hc]; rfl, by omega⟩
  obtain rfl : i = l.length := by omega
  rw [List.take_length] at hw
  (first | focus (refine yy10 ?_; refine yy28 ?_; intro hc; refine yy18 ?_; rotate_left) | fail)
  all_goals first
    | (exfalso; omega)
    | exact ⟨.inl rfl, _, _, _, Ent.refl _ _, ret1 rfl rfl, ⟨-1, rfl, by rw [hw]; rfl⟩, rfl⟩
theorem ContainsH_calls (H : AHeap) (l : List En) (q : Nat) (hl : l.length ≤ 1000000000) : ACalls Try.prog 67 [lsE l, .fnc (.func 68) [] [.pce [uI q] 0]] H fun r H' => r = bB (Ag.hasId l q) ∧ H' = H := by
  refine acalls_of_aw2 Try.func67 rfl (by decide) ?_
  (first | focus (refine yy46 ?_; refine yy31 ?_; refine yy106 ?_; (refine zc auto_wl (IndexH_calls _ l q hl) ?_; rintro r H' ⟨⟨k, rfl, hk⟩, rfl⟩); refine awl_s rfl (s_geq rfl rfl) ?_; refine yy9 ?_; rotate_left) | fail)
  exact ⟨.inl rfl, _, _, _, Ent.refl _ _, ret1 rfl rfl, by rw [← hk]; rfl, rfl⟩
theorem has_calls (H : AHeap) (l : List En) (q : Nat) (hl : l.length ≤ 1000000000) : ACalls Try.prog 39 [lsE l, uI q] H fun r H' => r = bB (Ag.hasId l q) ∧ H' = H := by
  refine acalls_of_aw2 Try.func39 rfl (by decide) ?_
  (first | focus (refine yy4 ?_; refine awl_box_1 rfl rfl rfl rfl ?_; refine yy24 ?_; refine yy31 ?_; refine awl_s rfl (s_makeFunc rfl rfl) ?_; (refine zc auto_wl (ContainsH_calls _ l q hl) ?_; rintro r H' ⟨rfl, rfl⟩); refine yy9 ?_; rotate_left) | fail)
  exact ⟨.inl rfl, _, _, _, Ent.refl _ _, ret1 rfl rfl, rfl, rfl⟩
/-- A list that lies in a live object. -/
theorem has_vw (H : AHeap) (o off : Nat) (xs : List AV) (l : List En) (q : Nat) (hl : l.length ≤ 1000000000) (hH : H o = some (.cel xs)) (hf : off + l.length * 3 = xs.length) (hx : xs.drop off = l.flatMap En.cells) : ACalls Try.prog 39 [.vw o 3 off l.length, uI q] H fun r H' => r = bB (Ag.hasId l q) ∧ H' = H := by
  have hp := Peek.vw (off := off) (m := l.length) (sz := 3) hH (by omega)
  rw [hx, List.take_of_length_le (by rw [← hx, List.length_drop]; omega)] at hp
  exact ((has_calls AHeap.empty l q hl).mono fun _ _ h => h.1).peek (PeekL.cons hp (PeekL.cons (Peek.refl _) PeekL.nil))
theorem may_calls (H : AHeap) (e : En) (hr : e.row.length ≤ 1000000000) : ACalls Try.prog 38 [.agg e.cells] H fun r H' => r = bB (Ag.may e) ∧ H' = H := by
  refine acalls_of_aw1 Try.func38 rfl (by decide) ?_
  (first | focus (refine yy4 ?_; refine zb4 rfl rfl rfl ?_; refine yy24 ?_; refine yy35 ?_; refine yy27 ?_; refine yy2 ?_; refine zg1 rfl rfl rfl (fun hc => ?_) (fun hc => ?_); refine yy88 ?_; refine yy5 ?_; refine yy58 ?_; refine yy5 ?_; refine yy32 ?_; refine yy5 ?_; refine awl_s rfl (s_len_ rfl rfl) ?_; refine yy40 ?_; refine yy9 ?_; rotate_left; refine yy54 ?_; refine yy41 ?_; refine yy20 ?_; refine yy9 ?_; rotate_left) | fail)
  · exact ⟨.inl rfl, _, _, _, Ent.refl _ _, ret1 rfl rfl, by rw [show Ag.may e = decide (e.row.length ≤ 16) from by simp [Ag.may, hc]]; rfl, rfl⟩
  · exact ⟨.inl rfl, _, _, _, Ent.refl _ _, ret1 rfl rfl, by rw [show Ag.may e = false from by simp [Ag.may, hc]]; rfl, rfl⟩
theorem CloneR_calls (H : AHeap) (l : List Int) (hl : l.length ≤ 1000000) : ACalls Try.prog 34 [.sls l.length (l.map mI)] H fun r H' => r = .sls l.length (l.map mI) ∧ H' = H := by
  refine acalls_of_aw1 Try.func34 rfl (by decide) ?_
  (first | focus (refine yy4 ?_; refine yy6 ?_; refine yy12 ?_; refine yy31 ?_; refine awl_sls_eqnil rfl rfl rfl (fun b hb => ?_); refine yy3 ?_; refine aw_cond rfl (fun hc => ?_) (fun hc => ?_); refine yy18 ?_; refine yy21 ?_; rotate_left; refine yy66 ?_; refine yy4 ?_; refine awl_s rfl (s_buildSlice0) ?_; refine yy31 ?_; refine awl_s rfl (s_app_emp_cel rfl rfl auto_src auto_len auto_len) ?_; refine awl_s rfl (s_assign (v := .sls _ _) rfl) ?_; refine yy25 ?_; rotate_left) | fail)
  · exact ⟨.inl rfl, _, _, _, Ent.weakReg 2 rfl (W.nils rfl), ret1 rfl rfl, by obtain ⟨h1, h2⟩ := hb hc; rw [h1, h2]; rfl, rfl⟩
  · exact ⟨.inl rfl, _, _, _, Ent.refl _ _, ret1 rfl rfl, rfl, rfl⟩
theorem Copy_calls (H : AHeap) (e : En) (hr : e.row.length ≤ 1000000) : ACalls Try.prog 42 [.agg e.cells] H fun r H' => r = .agg e.cells ∧ H' = H := by
  refine acalls_of_aw1 Try.func42 rfl (by decide) ?_
  (first | focus (refine yy4 ?_; refine zb1 rfl rfl rfl (fun oN hoN => ?_); refine awl_alloc rfl rfl rfl (fun oN hoN => ?_); refine yy71 ?_; refine yy61 ?_; refine yy94 ?_; (refine zc auto_wl (CloneR_calls _ e.row hr) ?_; rintro r H' ⟨rfl, rfl⟩); refine yy61 ?_; refine yy59 ?_; refine yy71 ?_; refine yy64 ?_; refine yy25 ?_; rotate_left) | fail)
  exact ⟨.inl rfl, _, _, _, Ent.cellRet 2 e.cells rfl auto_heap (wc_refl _) auto_hs, ret_1 rfl (rv1_agg (m := 3) rfl rfl rfl (by decide)), rfl, rfl⟩
/-! Another list, the same. -/
theorem copies_own (H : AHeap) (l : List En) (hl : l.length ≤ 1000000) (hr : ∀ e ∈ l, e.row.length ≤ 1000000) : ACalls Try.prog 43 [lsE l] H fun r H' => ∃ o, H o = none ∧ r = .vw o 3 0 l.length ∧ H' = H.set o (.cel (l.flatMap En.cells)) := by
  refine acalls_of_aw1 Try.func43 rfl (by decide) ?_
  (first | focus (refine yy46 ?_; refine yy6 ?_; refine yy12 ?_; refine yy44 ?_; refine yy56 ?_; rotate_left) | fail)
  refine aw_own_nil 3 3 (.cel []) rfl rfl (fun oL hoL => ?_)
  refine aw_loop (fun mm R' H2 => ∃ (i oL : Nat), H oL = none ∧ H2 = H.set oL (.cel ((l.take i).flatMap En.cells)) ∧ R' = [(3, .vw oL 3 0 i), (6, lsE l), (7, .raw (.int .i64 (l.length : Int))), (8, .raw (.int .i64 (i : Int)))] ∧ i + mm = l.length) ?_ ?_
  · exact ⟨l.length, _, _, auto_ent, 0, oL, hoL, by rw [List.take_zero]; rfl, rfl, by omega⟩
  clear hoL oL
  rintro mm R0 H2 ⟨i, oL, hoL, rfl, rfl, hi⟩
  have hfl : ((l.take i).flatMap En.cells).length = i * 3 := by rw [flat_len (sz := 3) (fun _ => rfl), List.length_take, Nat.min_eq_left (by omega)]
  by_cases hlt : i < l.length
  · have hg : l[i]? = some l[i] := List.getElem?_eq_getElem hlt
    have hm := hr _ (List.getElem_mem hlt)
    have hge := ent_get hg
    have hsn : (l.take (i + 1)).flatMap En.cells = (l.take i).flatMap En.cells ++ (l[i]).cells := by rw [List.take_add_one, hg, List.flatMap_append]; simp [hg]
    generalize l[i] = e at *
    (first | focus (refine yy10 ?_; refine aw_condp rfl (fun hc => ?_) (fun hc => ?_); refine yy26 ?_; refine yy63 ?_; refine yy99 ?_; refine awl_alloc rfl rfl rfl (fun oN hoN => ?_); refine yy80 ?_; refine yy3 ?_; refine aw_region ?_; refine yy52 ?_; refine yy62 ?_; (refine zc auto_wl (Copy_calls _ e hm) ?_; rintro r H' ⟨rfl, rfl⟩); refine yy92 ?_; refine za2 rfl rfl rfl (by assumption) auto_len auto_src auto_len auto_len (fun oN hoN => ?_); refine yy65 ?_; refine yy7 ?_; refine yy23 ?_; rotate_left; exact absurd hc auto_no) | fail)
    all_goals first
      | (exfalso; omega)
      | exact ⟨mm - 1, _, _, by omega, auto_entg, i + 1, oN, hoN, by rw [hsn]; rfl, rfl, by omega⟩
      | trace_state
  obtain rfl : i = l.length := by omega
  rw [List.take_length] at *
  (first | focus (refine yy10 ?_; refine yy28 ?_; intro hc; refine yy4 ?_; refine yy52 ?_; refine yy65 ?_; refine yy25 ?_; rotate_left) | fail)
  all_goals first
    | (exfalso; omega)
    | exact ⟨.inl rfl, _, _, _, Ent.refl _ _, ret1 rfl rfl, oL, hoL, rfl, rfl⟩
end Go.Proofs.Ytbciofnejefkiaa

namespace Go.Proofs.Ytbciofnejefkiaa
open Go Go.Am Go.Proofs
set_option linter.unusedSimpArgs false
set_option linter.unusedVariables false
set_option maxRecDepth 20000
set_option maxHeartbeats 4000000

/-! Does a list begin as another one; may inputs be a list. -/
theorem Ag.encEs_len'' : ∀ (l : List En), (∀ e ∈ l, e.row.length ≤ 16) → (encEs l).length ≤ 220 * l.length
  | [], _ => by simp [encEs]
  | e :: l, h => by
    have h1 := h e (List.mem_cons_self)
    have h2 := Ag.encEs_len'' l fun x hx => h x (List.mem_cons_of_mem _ hx)
    have h3 := enc1_len e
    have h5 : encEs (e :: l) = enc1 e ++ encEs l := by simp [encEs]
    rw [h5, List.length_append, List.length_cons]; omega
theorem row_get {l : List Int} {i : Nat} {v : Int} (h : l[i]? = some v) : (l.map mI)[i]? = some (mI v) := by simp [h]
theorem take_eq_snoc {l k : List Int} {i : Nat} {a b : Int} (ha : l[i]? = some a) (hb : k[i]? = some b) (h : l.take i = k.take i) (hab : a = b) : l.take (i + 1) = k.take (i + 1) := by
  rw [List.take_add_one, List.take_add_one, h, ha, hb, hab]
theorem ne_of_get {l k : List Int} {i : Nat} {a b : Int} (ha : l[i]? = some a) (hb : k[i]? = some b) (hab : ¬ a = b) : ¬ l = k := fun e => by
  subst e; rw [ha] at hb; exact hab (Option.some.inj hb)
theorem EqualR_calls (H : AHeap) (a b : List Int) (ha : a.length ≤ 1000000000) (hb : b.length ≤ 1000000000) : ACalls Try.prog 84 [.sls a.length (a.map mI), .sls b.length (b.map mI)] H fun r H' => r = bB (decide (a = b)) ∧ H' = H := by
  refine acalls_of_aw2 Try.func84 rfl (by decide) ?_
  (first | focus (refine yy4 ?_; refine yy6 ?_; refine yy12 ?_; refine yy44 ?_; refine yy44 ?_; refine yy70 ?_; refine yy3 ?_; refine aw_condp rfl (fun hc => ?_) (fun hc => ?_); refine yy18 ?_; refine yy21 ?_; rotate_left; refine yy66 ?_; refine yy12 ?_; refine yy44 ?_; refine yy56 ?_; rotate_left) | fail)
  · exact ⟨.inl rfl, _, _, _, Ent.refl _ _, ret1 rfl rfl, by rw [decide_eq_false (fun (e : a = b) => hc (congrArg List.length e))]; rfl, rfl⟩
  have hlen : a.length = b.length := by omega
  refine aw_loop (fun mm R' H2 => ∃ (i : Nat), H2 = H ∧ R' = [(0, .sls a.length (a.map mI)), (1, .sls b.length (b.map mI)), (12, .raw (.int .i64 (a.length : Int))), (13, .raw (.int .i64 (i : Int)))] ∧ a.take i = b.take i ∧ i + mm = a.length) ?_ ?_
  · exact ⟨a.length, _, _, auto_ent, 0, rfl, rfl, rfl, by omega⟩
  rintro mm R0 H2 ⟨i, rfl, rfl, ht, hi⟩
  by_cases hlt : i < a.length
  · have hga : a[i]? = some a[i] := List.getElem?_eq_getElem hlt
    have hgb : b[i]? = some (b[i]'(by omega)) := List.getElem?_eq_getElem (by omega)
    have g1 := row_get hga
    have g2 := row_get hgb
    have hsn := fun e => take_eq_snoc hga hgb ht e
    have hne := fun e => ne_of_get hga hgb e
    generalize a[i] = x at *
    generalize b[i]'(by omega) = y at *
    (first | focus (refine yy10 ?_; refine aw_condp rfl (fun hc => ?_) (fun hc => ?_); refine yy26 ?_; refine yy2 ?_; refine yy6 ?_; refine yy16 ?_; (apply awt_s; · exact s_move (v := .sls _ _) rfl); (apply awt_s; · exact s_move (v := .raw _) rfl); (apply awt_s; · exact s_indexAddr_sls rfl rfl auto_len); (apply awt_s; · exact s_load_pce rfl auto_idx); (apply awt_s; · exact s_move (v := .sls _ _) rfl); (apply awt_s; · exact s_move (v := .raw _) rfl); (apply awt_s; · exact s_indexAddr_sls rfl rfl auto_len); (apply awt_s; · exact s_load_pce rfl auto_idx); (apply awt_s; · exact s_neq rfl rfl); refine yy13 ?_; refine aw_condp rfl (fun hc => ?_) (fun hc => ?_); refine yy18 ?_; refine yy86 ?_; refine yy51 ?_; rotate_left; refine aw_skip ?_; refine yy23 ?_; rotate_left; exact absurd hc auto_no) | fail)
    all_goals first
      | exact ⟨.inl rfl, _, _, _, Ent.refl _ _, ret1 rfl rfl, by rw [decide_eq_false (hne hc)]; rfl, rfl⟩
      | exact ⟨mm - 1, _, _, by omega, auto_ent, i + 1, rfl, rfl, hsn (Decidable.of_not_not hc), by omega⟩
      | (exfalso; omega)
  obtain rfl : i = a.length := by omega
  rw [List.take_length, hlen, List.take_length] at ht
  (first | focus (refine yy10 ?_; refine yy28 ?_; intro hc; refine yy18 ?_; rotate_left) | fail)
  all_goals first
    | (exfalso; omega)
    | exact ⟨.inl rfl, _, _, _, Ent.refl _ _, ret1 rfl rfl, by rw [decide_eq_true ht]; rfl, rfl⟩
theorem same1_calls (H : AHeap) (a b : En) (ha : a.row.length ≤ 1000000000) (hb : b.row.length ≤ 1000000000) : ACalls Try.prog 83 [.agg a.cells, .agg b.cells] H fun r H' => r = bB (Ag.sameE a b) ∧ H' = H := by
  refine acalls_of_aw2 Try.func83 rfl (by decide) ?_
  (first | focus (refine yy4 ?_; refine zb4 rfl rfl rfl ?_; refine zb4 rfl rfl rfl ?_; refine yy24 ?_; refine yy35 ?_; refine yy35 ?_; refine yy49 ?_; refine yy2 ?_; refine zg1 rfl rfl rfl (fun hc => ?_) (fun hc => ?_); refine yy88 ?_; refine yy5 ?_; refine yy58 ?_; refine yy5 ?_; refine yy88 ?_; refine yy5 ?_; refine yy58 ?_; refine yy5 ?_; (refine zc auto_wl (EqualR_calls _ a.row b.row ha hb) ?_; rintro r H' ⟨rfl, rfl⟩); refine yy40 ?_; refine yy9 ?_; rotate_left; refine yy34 ?_; refine yy20 ?_; refine yy9 ?_; rotate_left) | fail)
  · exact ⟨.inl rfl, _, _, _, Ent.refl _ _, ret1 rfl rfl, by rw [show Ag.sameE a b = decide (a.row = b.row) from by simp [Ag.sameE, hc]]; rfl, rfl⟩
  · exact ⟨.inl rfl, _, _, _, Ent.refl _ _, ret1 rfl rfl, by rw [show Ag.sameE a b = false from by simp [Ag.sameE, hc]]; rfl, rfl⟩
theorem eqL_len : ∀ {l k : List En}, ¬ l.length = k.length → Ag.eqL l k = false
  | [], [], h => absurd rfl h
  | [], b :: k, _ => rfl
  | a :: l, [], _ => rfl
  | a :: l, b :: k, h => by rw [Ag.eqL, eqL_len (fun e => h (by simp [e]))]; simp
theorem eqL_at : ∀ {l k : List En} {i : Nat} {a b : En}, l[i]? = some a → k[i]? = some b → Ag.sameE a b = false → Ag.eqL l k = false
  | x :: l, y :: k, 0, a, b, ha, hb, h => by cases ha; cases hb; rw [Ag.eqL, h]; rfl
  | x :: l, y :: k, i + 1, a, b, ha, hb, h => by rw [Ag.eqL, eqL_at (i := i) (l := l) (k := k) ha hb h]; simp
theorem eqL_all : ∀ {l k : List En}, l.length = k.length → (∀ (i : Nat) (a b : En), l[i]? = some a → k[i]? = some b → Ag.sameE a b = true) → Ag.eqL l k = true
  | [], [], _, _ => rfl
  | a :: l, b :: k, h, hs => by rw [Ag.eqL, hs 0 a b rfl rfl, eqL_all (by simpa using h) (fun i x y hx hy => hs (i + 1) x y hx hy)]; rfl
theorem flat_take (l : List En) (k : Nat) (h : k ≤ l.length) : (l.flatMap En.cells).take (k * 3) = (l.take k).flatMap En.cells := by
  have e : l.flatMap En.cells = (l.take k).flatMap En.cells ++ (l.drop k).flatMap En.cells := by rw [← List.flatMap_append, List.take_append_drop]
  have hl : ((l.take k).flatMap En.cells).length = k * 3 := by rw [flat_len (sz := 3) (fun _ => rfl), List.length_take, Nat.min_eq_left h]
  rw [e, ← hl, List.take_left]
theorem EqualF_calls (H : AHeap) (l k : List En) (hl : l.length ≤ 1000000000) (hk : k.length ≤ 1000000000) (hr : ∀ e ∈ l, e.row.length ≤ 1000000000) (hr2 : ∀ e ∈ k, e.row.length ≤ 1000000000) :
    ACalls Try.prog 85 [lsE l, lsE k, .fnc (.func 83) [] []] H fun r H' => r = bB (Ag.eqL l k) ∧ H' = H := by
  refine acalls_of_aw3 Try.func85 rfl (by decide) ?_
  (first | focus (refine yy4 ?_; refine yy6 ?_; refine yy12 ?_; refine yy44 ?_; refine yy44 ?_; refine yy70 ?_; refine yy3 ?_; refine aw_condp rfl (fun hc => ?_) (fun hc => ?_); refine yy18 ?_; refine yy21 ?_; rotate_left; refine yy66 ?_; refine yy12 ?_; refine yy44 ?_; refine yy56 ?_; rotate_left) | fail)
  · exact ⟨.inl rfl, _, _, _, Ent.refl _ _, ret1 rfl rfl, by rw [eqL_len hc]; rfl, rfl⟩
  have hlen : l.length = k.length := by omega
  refine aw_loop (fun mm R' H2 => ∃ (i : Nat), H2 = H ∧ R' = [(0, lsE l), (1, lsE k), (2, .fnc (.func 83) [] []), (15, lsE l), (16, .raw (.int .i64 (l.length : Int))), (17, .raw (.int .i64 (i : Int)))] ∧ (∀ (j : Nat) (a b : En), j < i → l[j]? = some a → k[j]? = some b → Ag.sameE a b = true) ∧ i + mm = l.length) ?_ ?_
  · exact ⟨l.length, _, _, auto_ent, 0, rfl, rfl, fun j a b h => absurd h (Nat.not_lt_zero _), by omega⟩
  rintro mm R0 H2 ⟨i, rfl, rfl, ht, hi⟩
  by_cases hlt : i < l.length
  · have hga : l[i]? = some l[i] := List.getElem?_eq_getElem hlt
    have hgb : k[i]? = some (k[i]'(by omega)) := List.getElem?_eq_getElem (by omega)
    have hra := hr _ (List.getElem_mem hlt)
    have hrb := hr2 _ (List.getElem_mem (show i < k.length by omega))
    have g1 := ent_get hga
    have g2 := ent_get hgb
    have hne := fun e => eqL_at hga hgb e
    have hst : ∀ e : Ag.sameE l[i] (k[i]'(by omega)) = true, ∀ (j : Nat) (a b : En), j < i + 1 → l[j]? = some a → k[j]? = some b → Ag.sameE a b = true := fun e j a b hj ha hb => by
      rcases Nat.lt_succ_iff_lt_or_eq.1 hj with h | rfl
      · exact ht j a b h ha hb
      · rw [hga] at ha; rw [hgb] at hb; cases ha; cases hb; exact e
    generalize l[i] = x at *
    generalize k[i]'(by omega) = y at *
    (first | focus (refine yy10 ?_; refine aw_condp rfl (fun hc => ?_) (fun hc => ?_); refine yy26 ?_; refine yy2 ?_; refine yy63 ?_; refine yy99 ?_; refine awl_alloc rfl rfl rfl (fun oN hoN => ?_); refine yy30 ?_; refine yy80 ?_; refine yy71 ?_; refine yy31 ?_; refine yy2 ?_; refine yy63 ?_; refine yy99 ?_; refine awl_alloc rfl rfl rfl (fun oN hoN => ?_); refine yy80 ?_; refine yy71 ?_; refine yy106 ?_; refine yy62 ?_; refine yy62 ?_; (((refine awl_callcv rfl rfl auto_wl (same1_calls _ x y hra hrb) (fun r H' hpost => ?_); obtain ⟨rfl, rfl⟩ := hpost))); refine yy37 ?_; refine yy3 ?_; refine aw_cond rfl (fun hc => ?_) (fun hc => ?_); refine yy18 ?_; refine yy86 ?_; refine yy51 ?_; rotate_left; refine aw_skip ?_; refine yy23 ?_; rotate_left; exact absurd hc auto_no) | fail)
    all_goals first
      | (exfalso; omega)
      | exact ⟨.inl rfl, _, _, _, Ent.refl _ _, ret1 rfl rfl, by rw [hne (by simpa using hc)]; rfl, rfl⟩
      | exact ⟨mm - 1, _, _, by omega, auto_ent, i + 1, rfl, rfl, hst (by simpa using hc), by omega⟩
  obtain rfl : i = l.length := by omega
  have hall : Ag.eqL l k = true := eqL_all hlen fun j a b ha hb => ht j a b (List.getElem?_eq_some_iff.1 ha).1 ha hb
  (first | focus (refine yy10 ?_; refine yy28 ?_; intro hc; refine yy18 ?_; rotate_left) | fail)
  all_goals first
    | (exfalso; omega)
    | exact ⟨.inl rfl, _, _, _, Ent.refl _ _, ret1 rfl rfl, by rw [hall]; rfl, rfl⟩
theorem begins_calls (H : AHeap) (l w : List En) (hl : l.length ≤ 1000000000) (hk : w.length ≤ 1000000000) (hr : ∀ e ∈ l, e.row.length ≤ 1000000000) (hr2 : ∀ e ∈ w, e.row.length ≤ 1000000000) :
    ACalls Try.prog 62 [lsE l, lsE w] H fun r H' => r = bB (Ag.begins l w) ∧ H' = H := by
  refine acalls_of_aw2 Try.func62 rfl (by decide) ?_
  have hE : w.length ≤ l.length → ∀ H, ACalls Try.prog 85 [.sls (w.length - 0) (List.take ((w.length - 0) * 3) (List.drop (0 * 3) (l.flatMap En.cells))), lsE w, .fnc (.func 83) [] []] H fun r H' => r = bB (Ag.eqL (l.take w.length) w) ∧ H' = H := fun hle H => by
    have e : List.take ((w.length - 0) * 3) (List.drop (0 * 3) (l.flatMap En.cells)) = (l.take w.length).flatMap En.cells := by
      rw [Nat.sub_zero, Nat.zero_mul, List.drop_zero]
      exact flat_take l w.length hle
    have := EqualF_calls H (l.take w.length) w (by rw [List.length_take]; omega) hk (fun e he => hr e (List.mem_of_mem_take he)) hr2
    have e2 : (l.take w.length).length = w.length := by rw [List.length_take]; omega
    unfold lsE at this
    rw [e2] at this
    rw [e, Nat.sub_zero]; exact this
  (first | focus (refine yy46 ?_; refine awl_s rfl (s_assign (v := .fnc _ _ _) rfl) ?_; refine yy71 ?_; refine yy44 ?_; refine yy44 ?_; refine yy97 ?_; refine yy2 ?_; refine zg1 rfl rfl rfl (fun hc => ?_) (fun hc => ?_); refine yy31 ?_; refine yy5 ?_; refine yy31 ?_; refine yy5 ?_; refine yy32 ?_; refine yy5 ?_; refine awl_s rfl (s_slice_sls rfl auto_bnd auto_bnd auto_len auto_len) ?_; refine yy5 ?_; refine yy31 ?_; refine yy5 ?_; refine yy106 ?_; refine yy5 ?_; (refine zc auto_wl (hE (by omega) _) ?_; rintro r H' ⟨rfl, rfl⟩); refine yy40 ?_; refine yy9 ?_; rotate_left; refine yy34 ?_; refine yy54 ?_; refine yy20 ?_; refine yy9 ?_; rotate_left) | fail)
  · exact ⟨.inl rfl, _, _, _, Ent.refl _ _, ret1 rfl rfl, by rw [show Ag.begins l w = Ag.eqL (l.take w.length) w from by simp [Ag.begins, hc]]; rfl, rfl⟩
  · exact ⟨.inl rfl, _, _, _, Ent.refl _ _, ret1 rfl rfl, by rw [show Ag.begins l w = false from by simp [Ag.begins, hc]]; rfl, rfl⟩
theorem get_put {k k' : Int} {v : AV} : ∀ (es : MI), (es.put k v).get k' = if k = k' then some v else es.get k'
  | [] => by simp [MI.put, MI.get]
  | (a, u) :: es => by
    have ih := get_put (k := k) (k' := k') (v := v) es
    unfold MI.put
    by_cases h : a = k
    · rw [if_pos h]; subst h; simp only [MI.get]; split <;> rfl
    · rw [if_neg h]; simp only [MI.get, ih]
      by_cases h2 : a = k'
      · rw [if_pos h2, if_neg (fun e => h (by rw [h2, e])), if_pos h2]
      · rw [if_neg h2, if_neg h2]
def seenM (l : List En) : MI := l.foldl (fun m e => m.put (e.id : Int) (bB true)) []
theorem seenM_snoc (l : List En) (e : En) : seenM (l ++ [e]) = (seenM l).put (e.id : Int) (bB true) := by simp [seenM]
theorem seenM_get (l : List En) (k : Nat) : (seenM l).get (k : Int) = if Ag.hasId l k = true then some (bB true) else none := by
  have : ∀ (l : List En) (m : MI), (l.foldl (fun m e => m.put (e.id : Int) (bB true)) m).get (k : Int) = if Ag.hasId l k = true then some (bB true) else m.get (k : Int) := by
    intro l
    induction l with
    | nil => intro m; simp [Ag.hasId]
    | cons e l ih =>
      intro m
      rw [List.foldl_cons, ih, get_put]
      by_cases h : e.id = k
      · simp [Ag.hasId, h]
      · have h' : ¬ ((e.id : Int) = (k : Int)) := by omega
        simp [Ag.hasId, h, h']
  have := this l []
  simpa [seenM, MI.get] using this
theorem uniq_snoc_iff : ∀ (l : List En) (e : En), Ag.uniq (l ++ [e]) = (Ag.uniq l && !Ag.hasId l e.id)
  | [], e => by simp [Ag.uniq, Ag.hasId]
  | a :: l, e => by
    rw [List.cons_append, Ag.uniq, uniq_snoc_iff l e, Ag.hasId_app, Ag.uniq]
    have : Ag.hasId [e] a.id = decide (e.id = a.id) := by simp [Ag.hasId]
    have h2 : Ag.hasId (a :: l) e.id = (decide (a.id = e.id) || Ag.hasId l e.id) := by simp [Ag.hasId]
    rw [this, h2]
    by_cases h : e.id = a.id
    · simp [h]
    · have h' : ¬ a.id = e.id := fun x => h x.symm
      simp [h, h']
      cases Ag.hasId l a.id <;> cases Ag.uniq l <;> cases Ag.hasId l e.id <;> rfl
theorem listed_bad {l : List En} {i : Nat} {e : En} (h : l[i]? = some e) (hb : Ag.may e = false ∨ Ag.hasId (l.take i) e.id = true) : Ag.listed l = false := by
  cases hl : Ag.listed l with
  | false => rfl
  | true =>
    exfalso
    simp only [Ag.listed, Bool.and_eq_true, List.all_eq_true] at hl
    rcases hb with hb | hb
    · rw [hl.1.1 e (List.mem_of_getElem? h)] at hb; cases hb
    · have hu := hl.1.2
      rw [← List.take_append_drop (i + 1) l] at hu
      have h2 := (Ag.uniq_app hu).1
      rw [List.take_add_one, h] at h2
      simp only [Option.toList_some] at h2
      rw [uniq_snoc_iff, hb] at h2
      simp at h2
theorem listed_calls (H : AHeap) (l : List En) (hl : l.length ≤ 1000000000) (hr : ∀ e ∈ l, e.row.length ≤ 1000000000) : ACalls Try.prog 51 [lsE l] H fun r H' => r = bB (Ag.listed l) ∧ H' = H := by
  refine acalls_of_aw1 Try.func51 rfl (by decide) ?_
  (first | focus (refine yy46 ?_; refine awl_makeMapI rfl (fun oN hoN => ?_); refine awl_s rfl (s_assign (v := .mp _) rfl) ?_; refine yy3 ?_; refine yy12 ?_; refine yy44 ?_; refine yy56 ?_; rotate_left) | fail)
  refine aw_loop (fun mm R' H2 => ∃ (i : Nat), H2 = H.set oN ((seenM (l.take i)).ao .u64) ∧ R' = [(3, .mp oN), (0, lsE l), (7, lsE l), (8, .raw (.int .i64 (l.length : Int))), (9, .raw (.int .i64 (i : Int)))] ∧ (l.take i).all Ag.may = true ∧ Ag.uniq (l.take i) = true ∧ i + mm = l.length) ?_ ?_
  · exact ⟨l.length, _, _, auto_ent, 0, by rw [List.take_zero]; rfl, rfl, by rw [List.take_zero]; rfl, by rw [List.take_zero]; rfl, by omega⟩
  rintro mm R0 H2 ⟨i, rfl, rfl, hma, hun, hi⟩
  by_cases hlt : i < l.length
  · have hg : l[i]? = some l[i] := List.getElem?_eq_getElem hlt
    have hm := hr _ (List.getElem_mem hlt)
    have hge := ent_get hg
    have hbad := fun x => listed_bad hg x
    have hmap : ((seenM (l.take i)).get (l[i].id : Int)).getD (.raw (.bool false)) = bB (Ag.hasId (l.take i) l[i].id) := by
      rw [seenM_get]; cases Ag.hasId (l.take i) l[i].id <;> rfl
    have hsn := seenM_snoc (l.take i) l[i]
    have hus := uniq_snoc_iff (l.take i) l[i]
    have hts : l.take (i + 1) = l.take i ++ [l[i]] := by rw [List.take_add_one, hg]; rfl
    generalize l[i] = e at *
    (first | focus (refine yy10 ?_; refine aw_condp rfl (fun hc => ?_) (fun hc => ?_); refine yy26 ?_; refine yy63 ?_; refine yy99 ?_; refine awl_alloc rfl rfl rfl (fun oN hoN => ?_); refine yy80 ?_; refine yy3 ?_; refine yy12 ?_; refine yy62 ?_; (refine zc auto_wl (may_calls _ e hm) ?_; rintro r H' ⟨rfl, rfl⟩); refine yy37 ?_; refine yy2 ?_; refine zg7 rfl rfl rfl (fun hc => ?_) (fun hc => ?_); refine yy54 ?_; refine yy41 ?_; refine yy48 ?_; refine yy42 ?_; refine yy18 ?_; refine yy51 ?_; refine yy51 ?_; rotate_left; refine awl_s rfl (s_move (v := .mp _) rfl) ?_; refine yy5 ?_; refine yy88 ?_; refine yy5 ?_; refine yy58 ?_; refine yy5 ?_; refine awl_s rfl (s_lookupI rfl rfl auto_heap (by first | assumption | rfl)) ?_; refine yy43 ?_; refine aw_cond rfl (fun hc => ?_) (fun hc => ?_); refine yy18 ?_; refine yy51 ?_; refine yy51 ?_; rotate_left; refine yy66 ?_; refine aw_region ?_; refine awl_s rfl (s_move (v := .mp _) rfl) ?_; refine yy35 ?_; refine awl_mapUpdateI rfl rfl auto_mv auto_heap ?_; refine yy7 ?_; refine yy23 ?_; rotate_left; exact absurd hc auto_no) | fail)
    all_goals first
      | (exfalso; omega)
      | exact ⟨.inl rfl, _, _, _, Ent.gc auto_sub, ret1 rfl rfl, by rw [hbad (.inl (by simpa using hc))]; rfl, rfl⟩
      | exact ⟨.inl rfl, _, _, _, Ent.gc auto_sub, ret1 rfl rfl, by rw [hbad (.inr hc), hc]; rfl, rfl⟩
      | exact ⟨mm - 1, _, _, by omega, auto_entg, i + 1, by rw [hts, hsn, AHeap.set_set], rfl, by rw [hts, List.all_append, hma]; simpa using ‹(!Ag.may e) = false›, by rw [hts, hus, hun, hc]; rfl, by omega⟩
  obtain rfl : i = l.length := by omega
  rw [List.take_length] at *
  have hfin : Ag.listed l = decide (l.length ≤ 200) := by simp only [Ag.listed, hma, hun, Bool.true_and]
  (first | focus (refine yy10 ?_; refine yy28 ?_; intro hc; refine yy4 ?_; refine yy44 ?_; refine awl_s rfl (s_len_ rfl rfl) ?_; refine yy9 ?_; rotate_left) | fail)
  all_goals first
    | (exfalso; omega)
    | exact ⟨.inl rfl, _, _, _, Ent.gc auto_sub, ret1 rfl rfl, by rw [hfin]; rfl, rfl⟩
end Go.Proofs.Ytbciofnejefkiaa

namespace Go.Proofs.Ytbciofnejefkiaa
open Go Go.Am Go.Proofs
set_option linter.unusedSimpArgs false
set_option linter.unusedVariables false
set_option maxRecDepth 20000
set_option maxHeartbeats 4000000

/-! A replica's part in memory, and a step. -/
def coreC (c : Ag.Co) (og oh : Nat) (wv : AV) : List AV := [mI c.me, mI c.n, uI c.view, uI c.last, lsE c.list, mI c.agreed, bB c.lead, mI c.quiet, .mp og, .mp oh, wv]
def voteA (v : Ag.Vt) : AV := .agg [uI v.last, lsE v.list]
structure GotM (es : MI) (c : Ag.Co) : Prop where
  get : ∀ k : Int, es.get k = if 0 ≤ k then (c.got k.toNat).map voteA else none
  len : es.length = c.size
structure HeldM (es : MI) (c : Ag.Co) : Prop where
  get : ∀ k : Int, es.get k = if 0 ≤ k then (c.held k.toNat).map uI else none
  nd : (es.map (·.1)).Nodup
structure Ob where
  o : Nat
  og : Nat
  oh : Nat
  ow : Nat
  os : Nat
  ov : Nat
  on : Nat
def Ob.l (F : Ob) : List Nat := [F.o, F.og, F.oh, F.ow, F.os, F.ov, F.on]
def Ob.c (F : Ob) : List Nat := [F.o, F.og, F.oh, F.ow]
def recB (me n : Nat) (x : Ag.Rd) : List UInt8 := encUs [me, n, x.kind, x.view, x.last, x.agreed, x.list.length] ++ encEs x.list
/-- All these objects are others. -/
structure Nd (F : Ob) : Prop where
  o_og : F.o ≠ F.og
  o_oh : F.o ≠ F.oh
  o_ow : F.o ≠ F.ow
  o_os : F.o ≠ F.os
  o_ov : F.o ≠ F.ov
  o_on : F.o ≠ F.on
  og_oh : F.og ≠ F.oh
  og_ow : F.og ≠ F.ow
  og_os : F.og ≠ F.os
  og_ov : F.og ≠ F.ov
  og_on : F.og ≠ F.on
  oh_ow : F.oh ≠ F.ow
  oh_os : F.oh ≠ F.os
  oh_ov : F.oh ≠ F.ov
  oh_on : F.oh ≠ F.on
  ow_os : F.ow ≠ F.os
  ow_ov : F.ow ≠ F.ov
  ow_on : F.ow ≠ F.on
  os_ov : F.os ≠ F.ov
  os_on : F.os ≠ F.on
  ov_on : F.ov ≠ F.on
structure CAt (H : AHeap) (F : Ob) (c : Ag.Co) : Prop where
  core : ∃ off xs, H F.o = some (.cel (coreC c F.og F.oh (.vw F.ow 3 off c.wait.length))) ∧ H F.ow = some (.cel xs) ∧ off + c.wait.length * 3 = xs.length ∧ xs.drop off = c.wait.flatMap En.cells
  got : ∃ es : MI, H F.og = some (es.ao .i64) ∧ GotM es c
  held : ∃ es : MI, H F.oh = some (es.ao .i64) ∧ HeldM es c
structure SAt (H : AHeap) (F : Ob) (s : Ag.St) : Prop where
  c : CAt H F s.c
  st : H F.os = some (.cel [.vw F.ov 1 0 s.save.length, .vw F.on 9 0 s.send.length])
  sv : H F.ov = some (.cel (s.save.map fun x => .bys (recB s.c.me s.c.n x)))
  sn : H F.on = some (.cel (s.send.flatMap Mg.cells))
  nd : Nd F
/-- What is small enough. -/
structure LF (l : List En) : Prop where
  ok : ∀ e ∈ l, e.Ok ∧ e.row.length ≤ 16
  len : l.length ≤ 200
structure CFine (c : Ag.Co) : Prop where
  me : c.me < c.n
  n : c.n ≤ 7
  view : c.view ≤ Ag.mostView
  last : c.last ≤ Ag.mostView
  list : LF c.list
  agr : c.agreed ≤ c.list.length
  wait : LF c.wait
  quiet : c.quiet ≤ 1000000000
  got : ∀ q x, c.got q = some x → q < c.n ∧ x.last ≤ Ag.mostView ∧ LF x.list
  held : ∀ q h, c.held q = some h → q < c.n ∧ h < 2 ^ 64
/-- Only the objects of F turned, or new ones came. -/
structure Turn (L : List Nat) (H : AHeap) (F F' : Ob) (H' : AHeap) : Prop where
  o : F'.o = F.o
  os : F'.os = F.os
  new : ∀ p ∈ F'.l, p ∈ F.l ∨ H p = none
  fr : ∀ p y, H p = some y → p ∉ L → H' p = some y
theorem Ob.cl {F : Ob} {p : Nat} (h : p ∈ F.c) : p ∈ F.l := by
  simp only [Ob.c, Ob.l, List.mem_cons, List.not_mem_nil, or_false] at *
  rcases h with h | h | h | h <;> simp [h]

theorem Ob.nel {F : Ob} {p : Nat} (h : p ∉ F.l) : p ≠ F.o ∧ p ≠ F.og ∧ p ≠ F.oh ∧ p ≠ F.ow ∧ p ≠ F.os ∧ p ≠ F.ov ∧ p ≠ F.on := by
  simp only [Ob.l, List.mem_cons, List.not_mem_nil, or_false, not_or] at h; exact h

/-! What reads alone. -/
theorem leader_calls (H : AHeap) (o : Nat) (c : Ag.Co) (og oh : Nat) (wv : AV) (v : Nat) (h : H o = some (.cel (coreC c og oh wv))) (hn : 0 < c.n) (h7 : c.n ≤ 7) (hv : v < 2 ^ 64) :
    ACalls Try.prog 41 [.ptr o 0, uI v] H fun r H' => r = mI ((v % c.n : Nat) : Int) ∧ H' = H := by
  unfold coreC at h
  have hm := Nat.mod_lt v hn
  refine acalls_of_aw2 Try.func41 rfl (by decide) ?_
  (first | focus (refine yy46 ?_; refine yy2 ?_; refine yy8 ?_; refine awl_s rfl (s_convn rfl (by omega)) ?_; refine awl_s rfl (s_remn rfl rfl auto_len) ?_; refine awl_s rfl (s_convi rfl (by omega) (by omega)) ?_; refine yy9 ?_; rotate_left) | fail)
  exact ⟨.inl rfl, _, _, _, Ent.refl _ _, ret1 rfl rfl, rfl, rfl⟩
theorem quorum_calls (H : AHeap) (o : Nat) (c : Ag.Co) (og oh : Nat) (wv : AV) (h : H o = some (.cel (coreC c og oh wv))) (h7 : c.n ≤ 7) :
    ACalls Try.prog 79 [.ptr o 0] H fun r H' => r = mI (c.quorum : Int) ∧ H' = H := by
  unfold coreC at h
  refine acalls_of_aw1 Try.func79 rfl (by decide) ?_
  (first | focus (refine yy46 ?_; refine yy8 ?_; refine awl_s rfl (s_quon rfl rfl (by omega) (by omega)) ?_; refine yy74 ?_; refine yy9 ?_; rotate_left) | fail)
  exact ⟨.inl rfl, _, _, _, Ent.refl _ _, ret1 rfl rfl, rfl, rfl⟩
theorem encEs_small {l : List En} (h : LF l) : (encEs l).length ≤ 44000 := by
  have := Ag.encEs_len'' l fun e he => (h.ok e he).2
  have := h.len
  omega
theorem get_mapU {l : List Nat} {i : Nat} {v : Nat} (h : l[i]? = some v) : (l.map uI)[i]? = some (uI v) := by simp [h]
theorem record_calls (H : AHeap) (o : Nat) (c : Ag.Co) (og oh : Nat) (wv : AV) (x : Ag.Rd) (h : H o = some (.cel (coreC c og oh wv))) (hme : c.me < 100) (hn : c.n < 100) (hk : x.kind < 100) (hv : x.view < 2 ^ 64) (hl : x.last < 2 ^ 64) (ha : x.agreed < 2 ^ 62) (hf : LF x.list) :
    ACalls Try.prog 90 [.ptr o 0, uI x.kind, uI x.view, uI x.last, mI x.agreed, lsE x.list] H fun r H' => r = .bys (recB c.me c.n x) ∧ H' = H := by
  have hes := encEs_small hf
  have hlen := hf.len
  have hrow := hf.ok
  unfold coreC at h
  refine acalls_of_aw6 Try.func90 rfl (by decide) ?_
  (first | focus (refine yy46 ?_; refine yy6 ?_; refine aw_seq ?_; refine aw_seq ?_; refine aw_draw0 auto_kr auto_kr ?_; (apply awt_s; · exact s_move (v := .ptr _ _) rfl); (apply awt_s; · exact s_nilCheck_ptr rfl); (apply awt_s; · exact s_fieldAddr_ptr rfl); (apply awt_s; · exact s_load_cel rfl auto_heap rfl); (apply awt_s; · exact s_convn rfl (by omega)); (apply awt_s; · exact s_move (v := .ptr _ _) rfl); (apply awt_s; · exact s_nilCheck_ptr rfl); (apply awt_s; · exact s_fieldAddr_ptr rfl); (apply awt_s; · exact s_load_cel rfl auto_heap rfl); (apply awt_s; · exact s_convn rfl (by omega)); (apply awt_s; · exact s_move (v := .raw _) rfl); (apply awt_s; · exact s_move (v := .raw _) rfl); (apply awt_s; · exact s_move (v := .raw _) rfl); (apply awt_s; · exact s_move (v := .raw _) rfl); (apply awt_s; · exact s_convn rfl (by omega)); (apply awt_s; · exact s_move (v := .sls _ _) rfl); (apply awt_s; · exact s_len_sls rfl); (apply awt_s; · exact s_convn rfl (by omega)); (apply awt_s; · exact s_buildSlicev (by ((repeat' (first | exact eqL_nil | apply eqL_cons)); all_goals (first | exact (rfl : _ = AV.raw _) | exact (rfl : _ = AV.bys _) | exact (rfl : _ = AV.vw _ _ _ _) | exact (rfl : _ = AV.ptr _ _) | exact (rfl : _ = AV.str _) | exact (rfl : _ = AV.sls _ _) | exact (rfl : _ = AV.tup _) | exact (rfl : _ = AV.agg _) | exact (rfl : _ = AV.pce _ _) | exact (rfl : _ = AV.emp) | exact (rfl : _ = AV.bysx _) | exact (rfl : _ = AV.slsx _ _) | exact (rfl : _ = AV.mp _) | exact (rfl : _ = AV.fnc _ _ _) | exact (rfl : _ = AV.pby _ _) | exact (rfl : _ = AV.ifc _ _)))) (by rfl) (by rfl) (by rfl) (by ((repeat' (first | exact eqL_nil | apply eqL_cons)); all_goals (first | exact (rfl : _ = AV.raw _) | exact (rfl : _ = AV.bys _) | exact (rfl : _ = AV.vw _ _ _ _) | exact (rfl : _ = AV.ptr _ _) | exact (rfl : _ = AV.str _) | exact (rfl : _ = AV.sls _ _) | exact (rfl : _ = AV.tup _) | exact (rfl : _ = AV.agg _) | exact (rfl : _ = AV.pce _ _) | exact (rfl : _ = AV.emp) | exact (rfl : _ = AV.bysx _) | exact (rfl : _ = AV.slsx _ _) | exact (rfl : _ = AV.mp _) | exact (rfl : _ = AV.fnc _ _ _) | exact (rfl : _ = AV.pby _ _) | exact (rfl : _ = AV.ifc _ _)))) (by decide)); (apply awt_s; · exact s_len_slsx rfl); (apply awt_s; · exact s_move (v := .raw _) rfl); refine yy13 ?_; refine aw_block ?_; rotate_left) | fail)
  have hsm : ∀ v ∈ [c.me, c.n, x.kind, x.view, x.last, x.agreed, x.list.length], v < 2 ^ 64 := by
    intro v hv'
    simp only [List.mem_cons, List.not_mem_nil, or_false] at hv'
    omega
  have hrec : recB c.me c.n x = encUs [c.me, c.n, x.kind, x.view, x.last, x.agreed, x.list.length] ++ encEs x.list := rfl
  have hvl : [c.me, c.n, x.kind, x.view, x.last, x.agreed, x.list.length].length = 7 := rfl
  have hvm : [AV.raw (.int .u64 (c.me : Int)), .raw (.int .u64 (c.n : Int)), .raw (.int .u64 (x.kind : Int)), .raw (.int .u64 (x.view : Int)), .raw (.int .u64 (x.last : Int)), .raw (.int .u64 (x.agreed : Int)), .raw (.int .u64 (x.list.length : Int))] = [c.me, c.n, x.kind, x.view, x.last, x.agreed, x.list.length].map uI := rfl
  rw [hrec]
  generalize [c.me, c.n, x.kind, x.view, x.last, x.agreed, x.list.length] = vals at *
  refine aw_loop (fun mm R' H2 => ∃ (i : Nat) (acc : List UInt8), H2 = H ∧ R' = [(5, lsE x.list), (13, .bys acc), (36, .sls 7 (vals.map uI)), (37, .raw (.int .i64 ((7 : Nat) : Int))), (38, .raw (.int .i64 (i : Int)))] ∧ acc = encUs (vals.take i) ∧ i + mm = 7) ?_ ?_
  · exact ⟨7, _, _, (by rw [hvm]; exact auto_entw), 0, [], rfl, rfl, by simp [encUs], rfl⟩
  rintro mm R0 H2 ⟨i, acc, rfl, rfl, hacc, hi⟩
  have hal := encUs_len (vals.take i)
  rw [← hacc, List.length_take] at hal
  by_cases hlt : i < 7
  · have hg : vals[i]? = some vals[i] := List.getElem?_eq_getElem (by omega)
    have hv2 := hsm _ (List.getElem_mem (show i < vals.length by omega))
    have hs := encUs_snoc hg
    have g1 := get_mapU hg
    generalize vals[i] = v at *
    (first | focus (refine yy10 ?_; refine aw_condp rfl (fun hc => ?_) (fun hc => ?_); refine yy26 ?_; refine yy63 ?_; refine yy58 ?_; refine yy6 ?_; refine aw_region ?_; refine yy29 ?_; refine yy2 ?_; (refine zc auto_wl (U_calls _ _ _ auto_sd auto_sd) ?_; rintro r H' ⟨rfl, rfl⟩); refine yy91 ?_; refine yy7 ?_; refine yy23 ?_; rotate_left; exact absurd hc auto_no) | fail)
    all_goals first
      | (exfalso; omega)
      | exact ⟨mm - 1, _, _, by omega, auto_ent, i + 1, _, rfl, rfl, by rw [hs, hacc], by omega⟩
      | trace_state
  obtain rfl : i = 7 := by omega
  rw [List.take_of_length_le (by omega)] at hacc
  have hal2 : acc.length ≤ 77 := by omega
  clear hal
  (first | focus (refine yy10 ?_; refine yy28 ?_; intro hc; refine yy12 ?_; refine yy44 ?_; refine yy56 ?_; rotate_left) | fail)
  all_goals try (exfalso; omega)
  refine aw_loop (fun mm R' H3 => ∃ (i : Nat) (ac2 : List UInt8), H3 = H2 ∧ R' = [(13, .bys ac2), (46, lsE x.list), (47, .raw (.int .i64 (x.list.length : Int))), (48, .raw (.int .i64 (i : Int)))] ∧ ac2 = acc ++ encEs (x.list.take i) ∧ i + mm = x.list.length) ?_ ?_
  · exact ⟨x.list.length, _, _, auto_ent, 0, acc, rfl, rfl, by simp [encEs], by omega⟩
  clear hc
  rintro mm R0 H3 ⟨i, ac2, rfl, rfl, hac2, hi⟩
  have htk := encEs_take x.list i
  have hal3 : ac2.length = acc.length + (encEs (x.list.take i)).length := by rw [hac2, List.length_append]
  by_cases hlt : i < x.list.length
  · have hg : x.list[i]? = some x.list[i] := List.getElem?_eq_getElem hlt
    obtain ⟨oke, hre⟩ := hrow _ (List.getElem_mem hlt)
    have hs := encEs_snoc hg
    have hge := ent_get hg
    generalize x.list[i] = e at *
    have hel := encE_len e
    (first | focus (refine yy10 ?_; refine aw_condp rfl (fun hc => ?_) (fun hc => ?_); refine yy26 ?_; refine yy63 ?_; refine yy99 ?_; refine awl_alloc rfl rfl rfl (fun oN hoN => ?_); refine yy80 ?_; refine yy3 ?_; refine aw_region ?_; refine yy29 ?_; refine yy62 ?_; (refine zc auto_wl (PutEntry_calls _ e oke (by omega)) ?_; rintro r H' ⟨rfl, rfl⟩); refine awl_s rfl (s_bytes_str rfl auto_src auto_sl) ?_; (refine zc auto_wl (S_calls _ _ _ auto_sd auto_sd) ?_; rintro r H' ⟨rfl, rfl⟩); refine yy91 ?_; refine yy7 ?_; refine yy23 ?_; rotate_left; exact absurd hc auto_no) | fail)
    all_goals first
      | (exfalso; omega)
      | exact ⟨mm - 1, _, _, by omega, auto_ent, i + 1, _, rfl, rfl, by rw [hs, hac2]; simp [enc1], by omega⟩
      | trace_state
  obtain rfl : i = x.list.length := by omega
  rw [List.take_length] at *
  (first | focus (refine yy10 ?_; refine yy28 ?_; intro hc; refine yy4 ?_; refine yy29 ?_; refine yy91 ?_; refine yy25 ?_; rotate_left) | fail)
  all_goals first
    | (exfalso; omega)
    | exact ⟨.inl rfl, _, _, _, Ent.refl _ _, ret1 rfl rfl, by rw [← hacc, ← hac2]; rfl, rfl⟩
end Go.Proofs.Ytbciofnejefkiaa

namespace Go.Proofs.Ytbciofnejefkiaa
open Go Go.Am Go.Proofs
set_option linter.unusedSimpArgs false
set_option linter.unusedVariables false
set_option maxRecDepth 20000
set_option maxHeartbeats 4000000

/-! Records and messages are added to a step. -/
theorem Turn.refl (L : List Nat) (H : AHeap) (F : Ob) : Turn L H F F H := ⟨rfl, rfl, fun p hp => .inl hp, fun p y hp _ => hp⟩
theorem Turn.trans {H H1 H2 : AHeap} {F F1 F2 : Ob} (a : Turn F.l H F F1 H1) (b : Turn F1.l H1 F1 F2 H2) : Turn F.l H F F2 H2 where
  o := b.o.trans a.o
  os := b.os.trans a.os
  new p hp := by
    rcases b.new p hp with h | h
    · exact a.new p h
    · by_cases hF : p ∈ F.l
      · exact .inl hF
      · refine .inr ?_
        cases hx : H p with
        | none => rfl
        | some y => rw [a.fr p y hx hF] at h; cases h
  fr p y hp hF := by
    have h1 := a.fr p y hp hF
    refine b.fr p y h1 fun hm => ?_
    rcases a.new p hm with h | h
    · exact hF h
    · rw [hp] at h; cases h
theorem send_calls (H : AHeap) (F : Ob) (s : Ag.St) (m : Mg) (h : SAt H F s) (hf : CFine s.c) (hl : s.send.length ≤ 100000) :
    ACalls Try.prog 40 [.ptr F.o 0, .ptr F.os 0, .agg m.cells] H fun r H' => r = .tup [] ∧ ∃ F', SAt H' F' (s.out m) ∧ Turn F.l H F F' H' := by
  obtain ⟨⟨⟨off, xs, hco, hw, hx1, hx2⟩, ⟨eg, hg, hg2⟩, ⟨eh, hh, hh2⟩⟩, hst, hsv, hsn, nd⟩ := h
  obtain ⟨n1, n2, n3, n4, n5, n6, n7, n8, n9, n10, n11, n12, n13, n14, n15, n16, n17, n18, n19, n20, n21⟩ := nd
  unfold coreC at hco
  have hsl : (s.send.flatMap Mg.cells).length = s.send.length * 9 := flat_len (sz := 9) (fun _ => rfl) _
  refine acalls_of_aw3 Try.func40 rfl (by decide) ?_
  (first | focus (refine yy4 ?_; refine zb1 rfl rfl rfl (fun oN hoN => ?_); refine yy3 ?_; refine aw_seq ?_; refine DC.aw_drawp (fun H' => H' F.o = some (.cel [mI s.c.me, mI s.c.n, uI s.c.view, uI s.c.last, lsE s.c.list, mI s.c.agreed, bB s.c.lead, mI s.c.quiet, .mp F.og, .mp F.oh, .vw F.ow 3 off s.c.wait.length])) (by first | exact auto_heap | exact ⟨auto_heap, auto_heap⟩ | exact ⟨auto_heap, auto_heap, auto_heap⟩) auto_kr auto_dk auto_dk ?_; (apply DC.awn_s; · (intro H1 hPsi; (try dsimp only at hPsi); (try (obtain ⟨hPsi, hPsi2⟩ := hPsi)); exact s_move (v := .ptr _ _) rfl)); (apply DC.awn_s; · (intro H1 hPsi; (try dsimp only at hPsi); (try (obtain ⟨hPsi, hPsi2⟩ := hPsi)); exact s_nilCheck_ptr rfl)); (apply DC.awn_s; · (intro H1 hPsi; (try dsimp only at hPsi); (try (obtain ⟨hPsi, hPsi2⟩ := hPsi)); exact s_fieldAddr_ptr rfl)); (apply DC.awn_s; · (intro H1 hPsi; (try dsimp only at hPsi); (try (obtain ⟨hPsi, hPsi2⟩ := hPsi)); exact s_load_cel rfl auto_heap rfl)); (apply DC.awn_s; · (intro H1 hPsi; (try dsimp only at hPsi); (try (obtain ⟨hPsi, hPsi2⟩ := hPsi)); exact s_move (v := .ptr _ _) rfl)); (apply DC.awn_s; · (intro H1 hPsi; (try dsimp only at hPsi); (try (obtain ⟨hPsi, hPsi2⟩ := hPsi)); exact s_nilCheck_ptr rfl)); (apply DC.awn_s; · (intro H1 hPsi; (try dsimp only at hPsi); (try (obtain ⟨hPsi, hPsi2⟩ := hPsi)); exact s_fieldAddr_ptr rfl)); (apply DC.awn_s; · (intro H1 hPsi; (try dsimp only at hPsi); (try (obtain ⟨hPsi, hPsi2⟩ := hPsi)); exact s_load_cel rfl auto_heap rfl)); (apply DC.awn_s; · (intro H1 hPsi; (try dsimp only at hPsi); (try (obtain ⟨hPsi, hPsi2⟩ := hPsi)); exact s_fieldAddr_ptr rfl)); refine DC.awn_b0 ?_; (apply DC.awn_s; · (intro H1 hPsi; (try dsimp only at hPsi); (try (obtain ⟨hPsi, hPsi2⟩ := hPsi)); exact s_fieldAddr_ptr rfl)); refine DC.awn_b0 ?_; refine DC.awn_nil ?_; refine DC.awc_cons0 (fun Rx K1 hK1x => ?_); refine yy67 ?_; refine yy7 ?_; (refine hK1x _ (by first | exact Or.inl (by decide +kernel) | (refine Or.inr ?_; (try dsimp only); first | exact auto_heap | exact ⟨auto_heap, auto_heap⟩ | exact ⟨auto_heap, auto_heap, auto_heap⟩)) ?_; clear hK1x K1 Rx); refine DC.awc_cons0 (fun Rx K1 hK1x => ?_); refine yy67 ?_; refine yy7 ?_; (refine hK1x _ (by first | exact Or.inl (by decide +kernel) | (refine Or.inr ?_; (try dsimp only); first | exact auto_heap | exact ⟨auto_heap, auto_heap⟩ | exact ⟨auto_heap, auto_heap, auto_heap⟩)) ?_; clear hK1x K1 Rx); refine DC.awc_nil ?_; refine yy47 ?_; refine yy16 ?_; (apply awt_s; · exact s_fieldAddr_ptr rfl); (apply awt_s; · exact s_load_cel rfl auto_heap rfl); (apply awt_s; · exact s_move (v := .ptr _ _) rfl); (apply awt_s; · exact s_nilCheck_ptr rfl); (apply awt_s; · exact s_fieldAddr_ptr rfl); (apply awt_s; · exact s_load_cel rfl auto_heap rfl); (apply awt_s; · exact s_neq rfl rfl); refine yy13 ?_; refine aw_condp rfl (fun hc => ?_) (fun hc => ?_); refine DC.aw_drawp (fun H' => H' F.o = some (.cel [mI s.c.me, mI s.c.n, uI s.c.view, uI s.c.last, lsE s.c.list, mI s.c.agreed, bB s.c.lead, mI s.c.quiet, .mp F.og, .mp F.oh, .vw F.ow 3 off s.c.wait.length])) (by first | exact auto_heap | exact ⟨auto_heap, auto_heap⟩ | exact ⟨auto_heap, auto_heap, auto_heap⟩) auto_kr auto_dk auto_dk ?_; (apply DC.awn_s; · (intro H1 hPsi; (try dsimp only at hPsi); (try (obtain ⟨hPsi, hPsi2⟩ := hPsi)); exact s_move (v := .ptr _ _) rfl)); (apply DC.awn_s; · (intro H1 hPsi; (try dsimp only at hPsi); (try (obtain ⟨hPsi, hPsi2⟩ := hPsi)); exact s_move (v := .ptr _ _) rfl)); (apply DC.awn_s; · (intro H1 hPsi; (try dsimp only at hPsi); (try (obtain ⟨hPsi, hPsi2⟩ := hPsi)); exact s_nilCheck_ptr rfl)); (apply DC.awn_s; · (intro H1 hPsi; (try dsimp only at hPsi); (try (obtain ⟨hPsi, hPsi2⟩ := hPsi)); exact s_fieldAddr_ptr rfl)); (apply DC.awn_e auto_dk; (· exact s_load_cel rfl auto_heap rfl)); (apply DC.awn_e auto_dk; (· exact s_load_agg rfl auto_heap rfl rfl (by first | decide | exact Nat.le_of_ble_eq_true rfl))); (apply DC.awn_s; · (intro H1 hPsi; (try dsimp only at hPsi); (try (obtain ⟨hPsi, hPsi2⟩ := hPsi)); exact s_buildSlicev (by ((repeat' (first | exact eqL_nil | apply eqL_cons)); all_goals (first | exact (rfl : _ = AV.raw _) | exact (rfl : _ = AV.bys _) | exact (rfl : _ = AV.vw _ _ _ _) | exact (rfl : _ = AV.ptr _ _) | exact (rfl : _ = AV.str _) | exact (rfl : _ = AV.sls _ _) | exact (rfl : _ = AV.tup _) | exact (rfl : _ = AV.agg _) | exact (rfl : _ = AV.pce _ _) | exact (rfl : _ = AV.emp) | exact (rfl : _ = AV.bysx _) | exact (rfl : _ = AV.slsx _ _) | exact (rfl : _ = AV.mp _) | exact (rfl : _ = AV.fnc _ _ _) | exact (rfl : _ = AV.pby _ _) | exact (rfl : _ = AV.ifc _ _)))) (by rfl) (by rfl) (by rfl) (by ((repeat' (first | exact eqL_nil | apply eqL_cons)); all_goals (first | exact (rfl : _ = AV.raw _) | exact (rfl : _ = AV.bys _) | exact (rfl : _ = AV.vw _ _ _ _) | exact (rfl : _ = AV.ptr _ _) | exact (rfl : _ = AV.str _) | exact (rfl : _ = AV.sls _ _) | exact (rfl : _ = AV.tup _) | exact (rfl : _ = AV.agg _) | exact (rfl : _ = AV.pce _ _) | exact (rfl : _ = AV.emp) | exact (rfl : _ = AV.bysx _) | exact (rfl : _ = AV.slsx _ _) | exact (rfl : _ = AV.mp _) | exact (rfl : _ = AV.fnc _ _ _) | exact (rfl : _ = AV.pby _ _) | exact (rfl : _ = AV.ifc _ _)))) (by decide))); refine DC.awn_b ?_; (apply DC.awn_s; · (intro H1 hPsi; (try dsimp only at hPsi); (try (obtain ⟨hPsi, hPsi2⟩ := hPsi)); exact s_nilCheck_ptr rfl)); (apply DC.awn_s; · (intro H1 hPsi; (try dsimp only at hPsi); (try (obtain ⟨hPsi, hPsi2⟩ := hPsi)); exact s_fieldAddr_ptr rfl)); refine DC.awn_b0 ?_; refine DC.awn_nil ?_; refine DC.awc_cons (fun Rx K1 hK1x => ?_); refine za4 rfl rfl rfl auto_heap auto_al auto_src auto_len auto_len (fun oN hoN => ?_); refine yy7 ?_; (refine hK1x _ _ (by first | exact Or.inl (by decide +kernel) | (refine Or.inr ?_; (try dsimp only); first | exact auto_heap | exact ⟨auto_heap, auto_heap⟩ | exact ⟨auto_heap, auto_heap, auto_heap⟩)) ?_; clear hK1x K1 Rx); refine DC.awc_cons0 (fun Rx K1 hK1x => ?_); refine yy72 ?_; (refine hK1x _ (by first | exact Or.inl (by decide +kernel) | (refine Or.inr ?_; (try dsimp only); first | exact auto_heap | exact ⟨auto_heap, auto_heap⟩ | exact ⟨auto_heap, auto_heap, auto_heap⟩)) ?_; clear hK1x K1 Rx); refine DC.awc_nil ?_; rotate_left; refine aw_skip ?_; rotate_left) | fail)
  · have ho : s.out m = { s with send := s.send ++ [{ m with from_ := (s.c.me : Int), view := s.c.view }] } := if_neg hc
    rw [ho]
    have e1 : s.send.length + 1 = (s.send ++ [{ m with from_ := (s.c.me : Int), view := s.c.view }]).length := by simp
    refine ⟨.inr rfl, _, _, _, Ent.refl _ _, ret0 rfl, rfl, { F with on := oN }, ⟨⟨⟨off, xs, auto_heap, auto_heap, hx1, hx2⟩, ⟨eg, auto_heap, hg2⟩, ⟨eh, auto_heap, hh2⟩⟩, ?_, ?_, ?_, ?_⟩, ⟨rfl, rfl, fun p hp => ?_, fun p y hp hF => ?_⟩⟩
    · rw [← e1]; exact auto_heap
    · exact auto_heap
    · rw [List.flatMap_append]; exact auto_heap
    · constructor <;> (first | assumption | exact Ne.symm (by assumption) | exact AHeap.ne_of_fresh (by assumption) | exact Ne.symm (AHeap.ne_of_fresh (by assumption)) | exact AHeap.ne_of_fresh (AHeap.none_of_set (by assumption)) | exact Ne.symm (AHeap.ne_of_fresh (AHeap.none_of_set (by assumption))) | exact AHeap.ne_ns (by assumption) (by assumption) | exact AHeap.ne_sn (by assumption) (by assumption) | exact AHeap.ne_ns (by assumption) auto_heap2 | exact AHeap.ne_sn (by assumption) auto_heap2)
    · (simp only [Ob.l, Ob.c, List.mem_cons, List.not_mem_nil, or_false] at hp ⊢; (repeat' (first | (refine Or.elim hp (fun hp => ?_) (fun hp => ?_)))) <;> first | exact Or.inl (Or.inl hp) | exact Or.inl (Or.inr (Or.inl hp)) | exact Or.inl (Or.inr (Or.inr (Or.inl hp))) | exact Or.inl (Or.inr (Or.inr (Or.inr (Or.inl hp)))) | exact Or.inl (Or.inr (Or.inr (Or.inr (Or.inr (Or.inl hp))))) | exact Or.inl (Or.inr (Or.inr (Or.inr (Or.inr (Or.inr (Or.inl hp)))))) | exact Or.inl (Or.inr (Or.inr (Or.inr (Or.inr (Or.inr (Or.inr hp)))))) | (refine Or.inr ?_; rw [hp]; (first | assumption | exact AHeap.none_of_set ((by assumption)) | exact AHeap.none_of_set (AHeap.none_of_set ((by assumption))) | exact AHeap.none_of_set (AHeap.none_of_set (AHeap.none_of_set ((by assumption)))) | exact AHeap.none_of_set (AHeap.none_of_set (AHeap.none_of_set (AHeap.none_of_set ((by assumption))))) | exact AHeap.none_of_set (AHeap.none_of_set (AHeap.none_of_set (AHeap.none_of_set (AHeap.none_of_set ((by assumption)))))) | exact AHeap.none_of_set (AHeap.none_of_set (AHeap.none_of_set (AHeap.none_of_set (AHeap.none_of_set (AHeap.none_of_set ((by assumption))))))) | exact AHeap.none_of_set (AHeap.none_of_set (AHeap.none_of_set (AHeap.none_of_set (AHeap.none_of_set (AHeap.none_of_set (AHeap.none_of_set ((by assumption)))))))) | exact AHeap.none_of_set (AHeap.none_of_set (AHeap.none_of_set (AHeap.none_of_set (AHeap.none_of_set (AHeap.none_of_set (AHeap.none_of_set (AHeap.none_of_set ((by assumption))))))))) | exact AHeap.none_of_set (AHeap.none_of_set (AHeap.none_of_set (AHeap.none_of_set (AHeap.none_of_set (AHeap.none_of_set (AHeap.none_of_set (AHeap.none_of_set (AHeap.none_of_set ((by assumption)))))))))) | exact AHeap.none_of_set (AHeap.none_of_set (AHeap.none_of_set (AHeap.none_of_set (AHeap.none_of_set (AHeap.none_of_set (AHeap.none_of_set (AHeap.none_of_set (AHeap.none_of_set (AHeap.none_of_set ((by assumption))))))))))))))
    · (obtain ⟨f1, f2, f3, f4, f5, f6, f7⟩ := Ob.nel hF; exact auto_heap)
  · have ho : s.out m = s := if_pos (Decidable.of_not_not hc)
    rw [ho]
    exact ⟨.inr rfl, _, _, _, Ent.gc (H0 := H) auto_sub, ret0 rfl, rfl, F, ⟨⟨⟨off, xs, hco, hw, hx1, hx2⟩, ⟨eg, hg, hg2⟩, ⟨eh, hh, hh2⟩⟩, hst, hsv, hsn, ⟨n1, n2, n3, n4, n5, n6, n7, n8, n9, n10, n11, n12, n13, n14, n15, n16, n17, n18, n19, n20, n21⟩⟩, Turn.refl _ _ _⟩
theorem save_calls (H : AHeap) (F : Ob) (s : Ag.St) (k v : Nat) (l : List En) (h : SAt H F s) (hf : CFine s.c) (hl : s.save.length ≤ 100000) (hk : k < 100) (hv : v < 2 ^ 64) (hL : LF l) :
    ACalls Try.prog 78 [.ptr F.o 0, .ptr F.os 0, uI k, uI v, lsE l] H fun r H' => r = .tup [] ∧ ∃ F', SAt H' F' (s.put k v l) ∧ Turn F.l H F F' H' := by
  obtain ⟨⟨⟨off, xs, hco, hw, hx1, hx2⟩, ⟨eg, hg, hg2⟩, ⟨eh, hh, hh2⟩⟩, hst, hsv, hsn, nd⟩ := h
  obtain ⟨n1, n2, n3, n4, n5, n6, n7, n8, n9, n10, n11, n12, n13, n14, n15, n16, n17, n18, n19, n20, n21⟩ := nd
  have f1 := hf.me
  have f2 := hf.n
  have hR := fun H hc => record_calls H F.o s.c F.og F.oh (.vw F.ow 3 off s.c.wait.length) ⟨k, v, 0, 0, l⟩ hc (by omega) (by omega) hk hv (show (0 : Nat) < 2 ^ 64 by decide) (show (0 : Nat) < 2 ^ 62 by decide) hL
  have hlR : (recB s.c.me s.c.n ⟨k, v, 0, 0, l⟩).length ≤ 100000 := by
    have := encEs_small hL
    have := encUs_len [s.c.me, s.c.n, k, v, 0, 0, l.length]
    simp only [recB, List.length_append]
    simp only [List.length_cons, List.length_nil] at this
    omega
  have hsl : (s.save.map fun x => AV.bys (recB s.c.me s.c.n x)).length = s.save.length * 1 := by rw [List.length_map, Nat.mul_one]
  unfold coreC at hco hR
  refine acalls_of_aw5 Try.func78 rfl (by decide) ?_
  (first | focus (refine aw_drawx [90] auto_kr auto_dk auto_dk ?_; (apply awm_s; · (intro H1; exact s_move (v := .ptr _ _) rfl)); (apply awm_s; · (intro H1; exact s_move (v := .ptr _ _) rfl)); (apply awm_s; · (intro H1; exact s_nilCheck_ptr rfl)); (apply awm_s; · (intro H1; exact s_fieldAddr_ptr rfl)); (apply awm_e auto_dk; (· exact s_load_cel rfl auto_heap rfl)); (apply awm_s; · (intro H1; exact s_move (v := .ptr _ _) rfl)); (apply awm_s; · (intro H1; exact s_move (v := .raw _) rfl)); (apply awm_s; · (intro H1; exact s_move (v := .raw _) rfl)); (apply awm_s; · (intro H1; exact s_move (v := .sls _ _) rfl)); (apply awm_e auto_dk; (· exact s_callc auto_wl (hR _ auto_heap))); (apply awm_s; · (intro H1; exact s_buildSlicev (by ((repeat' (first | exact eqL_nil | apply eqL_cons)); all_goals (first | exact (rfl : _ = AV.raw _) | exact (rfl : _ = AV.bys _) | exact (rfl : _ = AV.vw _ _ _ _) | exact (rfl : _ = AV.ptr _ _) | exact (rfl : _ = AV.str _) | exact (rfl : _ = AV.sls _ _) | exact (rfl : _ = AV.tup _) | exact (rfl : _ = AV.agg _) | exact (rfl : _ = AV.pce _ _) | exact (rfl : _ = AV.emp) | exact (rfl : _ = AV.bysx _) | exact (rfl : _ = AV.slsx _ _) | exact (rfl : _ = AV.mp _) | exact (rfl : _ = AV.fnc _ _ _) | exact (rfl : _ = AV.pby _ _) | exact (rfl : _ = AV.ifc _ _)))) (by rfl) (by rfl) (by rfl) (by ((repeat' (first | exact eqL_nil | apply eqL_cons)); all_goals (first | exact (rfl : _ = AV.raw _) | exact (rfl : _ = AV.bys _) | exact (rfl : _ = AV.vw _ _ _ _) | exact (rfl : _ = AV.ptr _ _) | exact (rfl : _ = AV.str _) | exact (rfl : _ = AV.sls _ _) | exact (rfl : _ = AV.tup _) | exact (rfl : _ = AV.agg _) | exact (rfl : _ = AV.pce _ _) | exact (rfl : _ = AV.emp) | exact (rfl : _ = AV.bysx _) | exact (rfl : _ = AV.slsx _ _) | exact (rfl : _ = AV.mp _) | exact (rfl : _ = AV.fnc _ _ _) | exact (rfl : _ = AV.pby _ _) | exact (rfl : _ = AV.ifc _ _)))) (by decide))); refine awm_b ?_; (apply awm_s; · (intro H1; exact s_nilCheck_ptr rfl)); (apply awm_s; · (intro H1; exact s_fieldAddr_ptr rfl)); refine awm_b0 ?_; refine awm_nil ?_; refine awb_cons (fun Rx K1 hK1x => ?_); refine za4 rfl rfl rfl auto_heap auto_al auto_src auto_len auto_len (fun oN hoN => ?_); refine yy7 ?_; (refine hK1x _ _ ?_; clear hK1x K1 Rx); refine awb_cons0 (fun Rx K1 hK1x => ?_); refine yy72 ?_; (refine hK1x _ ?_; clear hK1x K1 Rx); refine awb_nil ?_; rotate_left) | fail)
  have e1 : (s.put k v l).save.length = s.save.length + 1 := by simp [Ag.St.put]
  have e2 : ((s.put k v l).save.map fun x => AV.bys (recB s.c.me s.c.n x)) = (s.save.map fun x => AV.bys (recB s.c.me s.c.n x)) ++ [AV.bys (recB s.c.me s.c.n ⟨k, v, 0, 0, l⟩)] := by simp [Ag.St.put]
  refine ⟨.inr rfl, _, _, _, Ent.refl _ _, ret0 rfl, rfl, { F with ov := oN }, ⟨⟨⟨off, xs, auto_heap, auto_heap, hx1, hx2⟩, ⟨eg, auto_heap, hg2⟩, ⟨eh, auto_heap, hh2⟩⟩, ?_, ?_, ?_, ?_⟩, ⟨rfl, rfl, fun p hp => ?_, fun p y hp hF => ?_⟩⟩
  · rw [e1]; exact auto_heap
  · show _ = some (AO.cel ((s.put k v l).save.map fun x => AV.bys (recB s.c.me s.c.n x)))
    rw [e2]; exact auto_heap
  · exact auto_heap
  · constructor <;> (first | assumption | exact Ne.symm (by assumption) | exact AHeap.ne_of_fresh (by assumption) | exact Ne.symm (AHeap.ne_of_fresh (by assumption)) | exact AHeap.ne_of_fresh (AHeap.none_of_set (by assumption)) | exact Ne.symm (AHeap.ne_of_fresh (AHeap.none_of_set (by assumption))) | exact AHeap.ne_ns (by assumption) (by assumption) | exact AHeap.ne_sn (by assumption) (by assumption) | exact AHeap.ne_ns (by assumption) auto_heap2 | exact AHeap.ne_sn (by assumption) auto_heap2)
  · (simp only [Ob.l, Ob.c, List.mem_cons, List.not_mem_nil, or_false] at hp ⊢; (repeat' (first | (refine Or.elim hp (fun hp => ?_) (fun hp => ?_)))) <;> first | exact Or.inl (Or.inl hp) | exact Or.inl (Or.inr (Or.inl hp)) | exact Or.inl (Or.inr (Or.inr (Or.inl hp))) | exact Or.inl (Or.inr (Or.inr (Or.inr (Or.inl hp)))) | exact Or.inl (Or.inr (Or.inr (Or.inr (Or.inr (Or.inl hp))))) | exact Or.inl (Or.inr (Or.inr (Or.inr (Or.inr (Or.inr (Or.inl hp)))))) | exact Or.inl (Or.inr (Or.inr (Or.inr (Or.inr (Or.inr (Or.inr hp)))))) | (refine Or.inr ?_; rw [hp]; (first | assumption | exact AHeap.none_of_set ((by assumption)) | exact AHeap.none_of_set (AHeap.none_of_set ((by assumption))) | exact AHeap.none_of_set (AHeap.none_of_set (AHeap.none_of_set ((by assumption)))) | exact AHeap.none_of_set (AHeap.none_of_set (AHeap.none_of_set (AHeap.none_of_set ((by assumption))))) | exact AHeap.none_of_set (AHeap.none_of_set (AHeap.none_of_set (AHeap.none_of_set (AHeap.none_of_set ((by assumption)))))) | exact AHeap.none_of_set (AHeap.none_of_set (AHeap.none_of_set (AHeap.none_of_set (AHeap.none_of_set (AHeap.none_of_set ((by assumption))))))) | exact AHeap.none_of_set (AHeap.none_of_set (AHeap.none_of_set (AHeap.none_of_set (AHeap.none_of_set (AHeap.none_of_set (AHeap.none_of_set ((by assumption)))))))) | exact AHeap.none_of_set (AHeap.none_of_set (AHeap.none_of_set (AHeap.none_of_set (AHeap.none_of_set (AHeap.none_of_set (AHeap.none_of_set (AHeap.none_of_set ((by assumption))))))))) | exact AHeap.none_of_set (AHeap.none_of_set (AHeap.none_of_set (AHeap.none_of_set (AHeap.none_of_set (AHeap.none_of_set (AHeap.none_of_set (AHeap.none_of_set (AHeap.none_of_set ((by assumption)))))))))) | exact AHeap.none_of_set (AHeap.none_of_set (AHeap.none_of_set (AHeap.none_of_set (AHeap.none_of_set (AHeap.none_of_set (AHeap.none_of_set (AHeap.none_of_set (AHeap.none_of_set (AHeap.none_of_set ((by assumption))))))))))))))
  · (obtain ⟨f1, f2, f3, f4, f5, f6, f7⟩ := Ob.nel hF; exact auto_heap)
/-! A replica waits for another one. -/
theorem follow_calls (H : AHeap) (o : Nat) (x0 x1 x2 x3 x4 x5 x6 x7 x8 x9 x10 : AV) (h : H o = some (.cel [x0, x1, x2, x3, x4, x5, x6, x7, x8, x9, x10])) :
    ACalls Try.prog 31 [.ptr o 0] H fun r H' => r = .tup [] ∧ ∃ og oh, H og = none ∧ H oh = none ∧ og ≠ oh ∧ H' og = some (MI.ao .i64 []) ∧ H' oh = some (MI.ao .i64 []) ∧ H' o = some (.cel [x0, x1, x2, x3, x4, x5, bB false, mI 0, .mp og, .mp oh, x10]) ∧ ∀ p y, p ≠ o → H p = some y → H' p = some y := by
  refine acalls_of_aw1 Try.func31 rfl (by decide) ?_
  (first | focus (refine yy22 ?_; refine yy111 ?_; refine yy59 ?_; refine yy60 ?_; refine yy67 ?_; refine yy3 ?_; refine yy39 ?_; refine yy17 ?_; refine awl_makeMapI rfl (fun oN hoN => ?_); refine awl_makeMapI rfl (fun oN hoN => ?_); refine yy60 ?_; refine yy59 ?_; refine yy60 ?_; refine yy67 ?_; refine yy7 ?_; rotate_left) | fail)
  exact ⟨.inr rfl, _, _, _, Ent.refl _ _, ret0 rfl, rfl, _, oN, by (first | assumption | exact AHeap.none_of_set ((by assumption)) | exact AHeap.none_of_set (AHeap.none_of_set ((by assumption))) | exact AHeap.none_of_set (AHeap.none_of_set (AHeap.none_of_set ((by assumption)))) | exact AHeap.none_of_set (AHeap.none_of_set (AHeap.none_of_set (AHeap.none_of_set ((by assumption))))) | exact AHeap.none_of_set (AHeap.none_of_set (AHeap.none_of_set (AHeap.none_of_set (AHeap.none_of_set ((by assumption)))))) | exact AHeap.none_of_set (AHeap.none_of_set (AHeap.none_of_set (AHeap.none_of_set (AHeap.none_of_set (AHeap.none_of_set ((by assumption))))))) | exact AHeap.none_of_set (AHeap.none_of_set (AHeap.none_of_set (AHeap.none_of_set (AHeap.none_of_set (AHeap.none_of_set (AHeap.none_of_set ((by assumption)))))))) | exact AHeap.none_of_set (AHeap.none_of_set (AHeap.none_of_set (AHeap.none_of_set (AHeap.none_of_set (AHeap.none_of_set (AHeap.none_of_set (AHeap.none_of_set ((by assumption))))))))) | exact AHeap.none_of_set (AHeap.none_of_set (AHeap.none_of_set (AHeap.none_of_set (AHeap.none_of_set (AHeap.none_of_set (AHeap.none_of_set (AHeap.none_of_set (AHeap.none_of_set ((by assumption)))))))))) | exact AHeap.none_of_set (AHeap.none_of_set (AHeap.none_of_set (AHeap.none_of_set (AHeap.none_of_set (AHeap.none_of_set (AHeap.none_of_set (AHeap.none_of_set (AHeap.none_of_set (AHeap.none_of_set ((by assumption)))))))))))), by (first | assumption | exact AHeap.none_of_set ((by assumption)) | exact AHeap.none_of_set (AHeap.none_of_set ((by assumption))) | exact AHeap.none_of_set (AHeap.none_of_set (AHeap.none_of_set ((by assumption)))) | exact AHeap.none_of_set (AHeap.none_of_set (AHeap.none_of_set (AHeap.none_of_set ((by assumption))))) | exact AHeap.none_of_set (AHeap.none_of_set (AHeap.none_of_set (AHeap.none_of_set (AHeap.none_of_set ((by assumption)))))) | exact AHeap.none_of_set (AHeap.none_of_set (AHeap.none_of_set (AHeap.none_of_set (AHeap.none_of_set (AHeap.none_of_set ((by assumption))))))) | exact AHeap.none_of_set (AHeap.none_of_set (AHeap.none_of_set (AHeap.none_of_set (AHeap.none_of_set (AHeap.none_of_set (AHeap.none_of_set ((by assumption)))))))) | exact AHeap.none_of_set (AHeap.none_of_set (AHeap.none_of_set (AHeap.none_of_set (AHeap.none_of_set (AHeap.none_of_set (AHeap.none_of_set (AHeap.none_of_set ((by assumption))))))))) | exact AHeap.none_of_set (AHeap.none_of_set (AHeap.none_of_set (AHeap.none_of_set (AHeap.none_of_set (AHeap.none_of_set (AHeap.none_of_set (AHeap.none_of_set (AHeap.none_of_set ((by assumption)))))))))) | exact AHeap.none_of_set (AHeap.none_of_set (AHeap.none_of_set (AHeap.none_of_set (AHeap.none_of_set (AHeap.none_of_set (AHeap.none_of_set (AHeap.none_of_set (AHeap.none_of_set (AHeap.none_of_set ((by assumption)))))))))))), by (first | assumption | exact Ne.symm (by assumption) | exact AHeap.ne_of_fresh (by assumption) | exact Ne.symm (AHeap.ne_of_fresh (by assumption)) | exact AHeap.ne_of_fresh (AHeap.none_of_set (by assumption)) | exact Ne.symm (AHeap.ne_of_fresh (AHeap.none_of_set (by assumption))) | exact AHeap.ne_ns (by assumption) (by assumption) | exact AHeap.ne_sn (by assumption) (by assumption) | exact AHeap.ne_ns (by assumption) auto_heap2 | exact AHeap.ne_sn (by assumption) auto_heap2), auto_heap, auto_heap, auto_heap, fun p y hp hy => auto_heap⟩
structure NdC (F : Ob) : Prop where
  o_og : F.o ≠ F.og
  o_oh : F.o ≠ F.oh
  o_ow : F.o ≠ F.ow
  og_oh : F.og ≠ F.oh
  og_ow : F.og ≠ F.ow
  oh_ow : F.oh ≠ F.ow
/-- A replica's part alone turns. -/
structure TurnC (H : AHeap) (F F' : Ob) (H' : AHeap) : Prop where
  o : F'.o = F.o
  os : F'.os = F.os
  ov : F'.ov = F.ov
  on : F'.on = F.on
  new : ∀ p ∈ F'.c, p ∈ F.c ∨ H p = none
  fr : ∀ p y, H p = some y → p ∉ F.c → H' p = some y
  nd : NdC F'
theorem SAt.turn {H H' : AHeap} {F F' : Ob} {s : Ag.St} {c : Ag.Co} (h : SAt H F s) (hc : CAt H' F' c) (t : TurnC H F F' H') (hm : c.me = s.c.me) (hn : c.n = s.c.n) : SAt H' F' { s with c := c } ∧ Turn F.l H F F' H' := by
  obtain ⟨n1, n2, n3, n4, n5, n6, n7, n8, n9, n10, n11, n12, n13, n14, n15, n16, n17, n18, n19, n20, n21⟩ := h.nd
  have hs : ∀ q ∈ [F.os, F.ov, F.on], q ∉ F.c := by
    intro q hq
    simp only [List.mem_cons, List.not_mem_nil, or_false, Ob.c, not_or] at *
    rcases hq with rfl | rfl | rfl
    · exact ⟨n4.symm, n9.symm, n13.symm, n16.symm⟩
    · exact ⟨n5.symm, n10.symm, n14.symm, n17.symm⟩
    · exact ⟨n6.symm, n11.symm, n15.symm, n18.symm⟩
  have hne : ∀ p ∈ F'.c, ∀ q ∈ [F.os, F.ov, F.on], ∀ y, H q = some y → p ≠ q := by
    intro p hp q hq y hy e
    subst e
    rcases t.new p hp with h | h
    · exact hs p hq h
    · rw [hy] at h; cases h
  have m1 : F.os ∈ [F.os, F.ov, F.on] := by simp
  have m2 : F.ov ∈ [F.os, F.ov, F.on] := by simp
  have m3 : F.on ∈ [F.os, F.ov, F.on] := by simp
  have k1 : F'.o ∈ F'.c := by simp [Ob.c]
  have k2 : F'.og ∈ F'.c := by simp [Ob.c]
  have k3 : F'.oh ∈ F'.c := by simp [Ob.c]
  have k4 : F'.ow ∈ F'.c := by simp [Ob.c]
  refine ⟨⟨hc, ?_, ?_, ?_, ?_⟩, ⟨t.o, t.os, fun p hp => ?_, fun p y hp hF => ?_⟩⟩
  · rw [t.os, t.ov, t.on]; exact t.fr _ _ h.st (hs _ m1)
  · show H' F'.ov = some (.cel (s.save.map fun x => .bys (recB c.me c.n x)))
    rw [t.ov, hm, hn]; exact t.fr _ _ h.sv (hs _ m2)
  · rw [t.on]; exact t.fr _ _ h.sn (hs _ m3)
  · have d := t.nd
    refine ⟨d.o_og, d.o_oh, d.o_ow, ?_, ?_, ?_, d.og_oh, d.og_ow, ?_, ?_, ?_, d.oh_ow, ?_, ?_, ?_, ?_, ?_, ?_, ?_, ?_, ?_⟩ <;> (try rw [t.os]) <;> (try rw [t.ov]) <;> (try rw [t.on])
    · exact hne _ k1 _ m1 _ h.st
    · exact hne _ k1 _ m2 _ h.sv
    · exact hne _ k1 _ m3 _ h.sn
    · exact hne _ k2 _ m1 _ h.st
    · exact hne _ k2 _ m2 _ h.sv
    · exact hne _ k2 _ m3 _ h.sn
    · exact hne _ k3 _ m1 _ h.st
    · exact hne _ k3 _ m2 _ h.sv
    · exact hne _ k3 _ m3 _ h.sn
    · exact hne _ k4 _ m1 _ h.st
    · exact hne _ k4 _ m2 _ h.sv
    · exact hne _ k4 _ m3 _ h.sn
    · exact n19
    · exact n20
    · exact n21
  · simp only [Ob.l, List.mem_cons, List.not_mem_nil, or_false] at hp
    have key : p ∈ F'.c → p ∈ F.l ∨ H p = none := fun h => (t.new p h).imp (fun h => Ob.cl h) id
    rcases hp with h | h | h | h | h | h | h
    · exact key (by simp [Ob.c, h])
    · exact key (by simp [Ob.c, h])
    · exact key (by simp [Ob.c, h])
    · exact key (by simp [Ob.c, h])
    · left; rw [h, t.os]; simp [Ob.l]
    · left; rw [h, t.ov]; simp [Ob.l]
    · left; rw [h, t.on]; simp [Ob.l]
  · exact t.fr p y hp fun h => hF (Ob.cl h)
/-! A promise. -/
theorem GotM.nil {c : Ag.Co} (h : ∀ q, c.got q = none) : GotM [] c := ⟨fun k => by simp [MI.get, h], by
  show 0 = _
  unfold Ag.Co.size
  rw [List.countP_eq_zero.2]
  intro a _; rw [h]; simp⟩
theorem HeldM.nil {c : Ag.Co} (h : ∀ q, c.held q = none) : HeldM [] c := ⟨fun k => by simp [MI.get, h], List.Pairwise.nil⟩
theorem CFine.promise {c : Ag.Co} (h : CFine c) {v : Nat} (hv : v ≤ 1099511627776) : CFine ({ c with view := v } : Ag.Co).follow :=
  ⟨h.me, h.n, hv, h.last, h.list, h.agr, h.wait, Nat.zero_le _, fun q x hx => (by cases hx), fun q x hx => (by cases hx)⟩
theorem promise_calls (H : AHeap) (F : Ob) (s : Ag.St) (v : Nat) (h : SAt H F s) (hf : CFine s.c) (hl : s.save.length ≤ 100000) (hv : v ≤ Ag.mostView) :
    ACalls Try.prog 52 [.ptr F.o 0, .ptr F.os 0, uI v] H fun r H' => r = .tup [] ∧ ∃ F', SAt H' F' (s.promise v) ∧ Turn F.l H F F' H' := by
  have h0 := h
  obtain ⟨⟨⟨off, xs, hco, hw, hx1, hx2⟩, ⟨eg, hg, hg2⟩, ⟨eh, hh, hh2⟩⟩, hst, hsv, hsn, nd⟩ := h
  obtain ⟨n1, n2, n3, n4, n5, n6, n7, n8, n9, n10, n11, n12, n13, n14, n15, n16, n17, n18, n19, n20, n21⟩ := nd
  unfold coreC at hco
  unfold Ag.mostView at hv
  refine acalls_of_aw3 Try.func52 rfl (by decide) ?_
  (first | focus (refine yy22 ?_; refine yy2 ?_; refine yy60 ?_; refine yy59 ?_; refine yy3 ?_; refine yy22 ?_; (refine zc auto_wl (follow_calls _ _ _ _ _ _ _ _ _ _ _ _ _ auto_heap) ?_; rintro r H' ⟨rfl, og, oh, hog, hoh, hne, q1, q2, q3, q4⟩); refine yy3 ?_; rotate_left) | fail)
  have e0 : ∀ p y, p ≠ F.o → H p = some y → H' p = some y := fun p y hp hy => q4 p y hp (AHeap.get_skip hp hy)
  have hog2 : H og = none := AHeap.none_of_set hog
  have hoh2 : H oh = none := AHeap.none_of_set hoh
  have m1 : og ≠ F.o := by (first | assumption | exact Ne.symm (by assumption) | exact AHeap.ne_of_fresh (by assumption) | exact Ne.symm (AHeap.ne_of_fresh (by assumption)) | exact AHeap.ne_of_fresh (AHeap.none_of_set (by assumption)) | exact Ne.symm (AHeap.ne_of_fresh (AHeap.none_of_set (by assumption))) | exact AHeap.ne_ns (by assumption) (by assumption) | exact AHeap.ne_sn (by assumption) (by assumption) | exact AHeap.ne_ns (by assumption) auto_heap2 | exact AHeap.ne_sn (by assumption) auto_heap2)
  have m2 : oh ≠ F.o := by (first | assumption | exact Ne.symm (by assumption) | exact AHeap.ne_of_fresh (by assumption) | exact Ne.symm (AHeap.ne_of_fresh (by assumption)) | exact AHeap.ne_of_fresh (AHeap.none_of_set (by assumption)) | exact Ne.symm (AHeap.ne_of_fresh (AHeap.none_of_set (by assumption))) | exact AHeap.ne_ns (by assumption) (by assumption) | exact AHeap.ne_sn (by assumption) (by assumption) | exact AHeap.ne_ns (by assumption) auto_heap2 | exact AHeap.ne_sn (by assumption) auto_heap2)
  have m3 : og ≠ F.ow := by (first | assumption | exact Ne.symm (by assumption) | exact AHeap.ne_of_fresh (by assumption) | exact Ne.symm (AHeap.ne_of_fresh (by assumption)) | exact AHeap.ne_of_fresh (AHeap.none_of_set (by assumption)) | exact Ne.symm (AHeap.ne_of_fresh (AHeap.none_of_set (by assumption))) | exact AHeap.ne_ns (by assumption) (by assumption) | exact AHeap.ne_sn (by assumption) (by assumption) | exact AHeap.ne_ns (by assumption) auto_heap2 | exact AHeap.ne_sn (by assumption) auto_heap2)
  have m4 : oh ≠ F.ow := by (first | assumption | exact Ne.symm (by assumption) | exact AHeap.ne_of_fresh (by assumption) | exact Ne.symm (AHeap.ne_of_fresh (by assumption)) | exact AHeap.ne_of_fresh (AHeap.none_of_set (by assumption)) | exact Ne.symm (AHeap.ne_of_fresh (AHeap.none_of_set (by assumption))) | exact AHeap.ne_ns (by assumption) (by assumption) | exact AHeap.ne_sn (by assumption) (by assumption) | exact AHeap.ne_ns (by assumption) auto_heap2 | exact AHeap.ne_sn (by assumption) auto_heap2)
  have t1 : TurnC H F { F with og := og, oh := oh } H' := by
    refine ⟨rfl, rfl, rfl, rfl, fun p hp => ?_, fun p y hy hF => e0 p y (fun e => hF (by simp [Ob.c, e])) hy, ⟨m1.symm, m2.symm, n3, hne, m3, m4⟩⟩
    simp only [Ob.c, List.mem_cons, List.not_mem_nil, or_false] at hp ⊢
    rcases hp with h | h | h | h
    · exact .inl (.inl h)
    · exact .inr (by rw [h]; exact hog2)
    · exact .inr (by rw [h]; exact hoh2)
    · exact .inl (.inr (.inr (.inr h)))
  have c1 : CAt H' { F with og := og, oh := oh } ({ s.c with view := v } : Ag.Co).follow := ⟨⟨off, xs, q3, e0 _ _ n3.symm hw, hx1, hx2⟩, ⟨[], q1, GotM.nil fun _ => rfl⟩, ⟨[], q2, HeldM.nil fun _ => rfl⟩⟩
  obtain ⟨a1, a2⟩ := h0.turn c1 t1 rfl rfl
  have hS := save_calls H' { F with og := og, oh := oh } _ 1 v [] a1 (hf.promise hv) hl (by decide) (by omega) ⟨by simp, by simp⟩
  clear a1 c1 q1 q2 q3 q4 e0 t1
  (first | focus (refine yy39 ?_; refine yy17 ?_; refine yy2 ?_; (refine zc auto_wl (hS) ?_; rintro r H' ⟨rfl, F2, b1, b2⟩); refine yy7 ?_; rotate_left) | fail)
  exact ⟨.inr rfl, _, _, _, Ent.refl _ _, ret0 rfl, rfl, F2, b1, a2.trans b2⟩
end Go.Proofs.Ytbciofnejefkiaa

namespace Go.Proofs.Ytbciofnejefkiaa
open Go Go.Am Go.Proofs
set_option linter.unusedSimpArgs false
set_option linter.unusedVariables false
set_option maxRecDepth 20000
set_option maxHeartbeats 4000000

/-! A message to all others. -/
theorem SAt.fr {H H' : AHeap} {F : Ob} {s : Ag.St} (h : SAt H F s) (hf : ∀ p ∈ F.l, ∀ y, H p = some y → H' p = some y) : SAt H' F s := by
  obtain ⟨⟨⟨off, xs, hco, hw, hx1, hx2⟩, ⟨eg, hg, hg2⟩, ⟨eh, hh, hh2⟩⟩, hst, hsv, hsn, nd⟩ := h
  exact ⟨⟨⟨off, xs, hf _ (by simp [Ob.l]) _ hco, hf _ (by simp [Ob.l]) _ hw, hx1, hx2⟩, ⟨eg, hf _ (by simp [Ob.l]) _ hg, hg2⟩, ⟨eh, hf _ (by simp [Ob.l]) _ hh, hh2⟩⟩, hf _ (by simp [Ob.l]) _ hst, hf _ (by simp [Ob.l]) _ hsv, hf _ (by simp [Ob.l]) _ hsn, nd⟩
theorem SAt.set {H : AHeap} {F : Ob} {s : Ag.St} (h : SAt H F s) {o : Nat} {x : AO} (ho : o ∉ F.l) : SAt (H.set o x) F s :=
  h.fr fun p hp y hy => AHeap.get_skip (fun e => ho (e ▸ hp)) hy
theorem Turn.set {L : List Nat} {H H1 : AHeap} {F F' : Ob} (t : Turn L H F F' H1) {o : Nat} {x : AO} (ho : H o = none) : Turn L H F F' (H1.set o x) :=
  ⟨t.o, t.os, t.new, fun p y hp hF => AHeap.get_skip (fun e => by rw [e, ho] at hp; cases hp) (t.fr p y hp hF)⟩
theorem Turn.set1 {L : List Nat} {H H1 : AHeap} {F F' : Ob} (t : Turn L H F F' H1) {o : Nat} {x : AO} (ho : H1 o = none) : Turn L H F F' (H1.set o x) :=
  ⟨t.o, t.os, t.new, fun p y hp hF => AHeap.get_skip (fun e => by have := t.fr p y hp hF; rw [e, ho] at this; cases this) (t.fr p y hp hF)⟩
/-- An object beside a replica's and a step's stays. -/
theorem Turn.keep {H H' : AHeap} {F F' : Ob} (t : Turn F.l H F F' H') {o : Nat} {x : AO} (hx : H o = some x) (ho : o ∉ F.l) : H' o = some x ∧ o ∉ F'.l :=
  ⟨t.fr o x hx ho, fun h => by rcases t.new o h with h | h; exact ho h; rw [hx] at h; cases h⟩
theorem SAt.notin {H : AHeap} {F : Ob} {s : Ag.St} (h : SAt H F s) {o : Nat} (ho : H o = none) : o ∉ F.l := fun hm => by
  obtain ⟨⟨⟨off, xs, hco, hw, hx1, hx2⟩, ⟨eg, hg, hg2⟩, ⟨eh, hh, hh2⟩⟩, hst, hsv, hsn, nd⟩ := h
  simp only [Ob.l, List.mem_cons, List.not_mem_nil, or_false] at hm
  rcases hm with e | e | e | e | e | e | e <;> rw [e] at ho <;> simp_all
def tellK (s : Ag.St) (m : Mg) (k : Nat) : Ag.St := (List.range k).foldl (fun (s : Ag.St) (to : Nat) => s.out { m with to := (to : Int) }) s
theorem tellK_succ (s : Ag.St) (m : Mg) (k : Nat) : tellK s m (k + 1) = (tellK s m k).out { m with to := (k : Int) } := by
  unfold tellK; rw [List.range_succ, List.foldl_append]; rfl
theorem out_small (s : Ag.St) (m : Mg) : (s.out m).c = s.c ∧ (s.out m).send.length ≤ s.send.length + 1 ∧ (s.out m).save = s.save := by
  unfold Ag.St.out
  split
  · exact ⟨rfl, by omega, rfl⟩
  · exact ⟨rfl, by rw [List.length_append, List.length_singleton]; exact Nat.le_refl _, rfl⟩
theorem tellK_small (s : Ag.St) (m : Mg) : ∀ (k : Nat), (tellK s m k).c = s.c ∧ (tellK s m k).send.length ≤ s.send.length + k ∧ (tellK s m k).save = s.save
  | 0 => ⟨rfl, Nat.le_refl _, rfl⟩
  | k + 1 => by
    obtain ⟨h1, h2, h3⟩ := tellK_small s m k
    obtain ⟨k1, k2, k3⟩ := out_small (tellK s m k) { m with to := (k : Int) }
    rw [tellK_succ]
    exact ⟨k1.trans h1, by omega, k3.trans h3⟩
theorem tell_calls (H : AHeap) (F : Ob) (s : Ag.St) (m : Mg) (h : SAt H F s) (hf : CFine s.c) (hl : s.send.length ≤ 10000) (hm : LF m.ents) :
    ACalls Try.prog 63 [.ptr F.o 0, .ptr F.os 0, .agg m.cells] H fun r H' => r = .tup [] ∧ ∃ F', SAt H' F' (s.tell m) ∧ Turn F.l H F F' H' := by
  have h0 := h
  obtain ⟨⟨⟨off, xs, hco, hw, hx1, hx2⟩, ⟨eg, hg, hg2⟩, ⟨eh, hh, hh2⟩⟩, hst, hsv, hsn, nd⟩ := h
  have f2 := hf.n
  have hml := hm.len
  have hcp := fun H => (copies_own H m.ents (by omega) fun e he => by have := (hm.ok e he).2; omega).seal_cel (flat_len (sz := 3) (fun _ => rfl) m.ents)
  unfold coreC at hco
  refine acalls_of_aw3 Try.func63 rfl (by decide) ?_
  (first | focus (refine yy4 ?_; refine zb1 rfl rfl rfl (fun oN hoN => ?_); refine yy71 ?_; refine yy8 ?_; refine yy56 ?_; rotate_left) | fail)
  have hom : oN ∉ F.l := h0.notin hoN
  refine aw_loop (fun mm R' H2 => ∃ (i : Nat) (F' : Ob) (t : Int), SAt H2 F' (tellK s m i) ∧ Turn F.l H F F' H2 ∧ oN ∉ F'.l ∧ H2 oN = some (.cel ({ m with to := t } : Mg).cells) ∧ R' = [(0, .ptr F.o 0), (1, .ptr F.os 0), (5, .ptr oN 0), (10, mI (s.c.n : Int)), (11, .raw (.int .i64 (i : Int)))] ∧ i + mm = s.c.n) ?_ ?_
  · exact ⟨s.c.n, _, _, auto_ent, 0, F, m.to, h0.set hom, (Turn.refl _ _ _).set hoN, hom, auto_heap, rfl, by omega⟩
  have hoM := hoN
  generalize hqq : oN = oM at *
  clear hqq oN hst hsv hsn hg hh hw hco
  rintro mm R0 H2 ⟨i, F', t, q1, q2, q3, q4, rfl, hi⟩
  obtain ⟨k1, k2, k3⟩ := tellK_small s m i
  have ks := tellK_succ s m i
  unfold Mg.cells at q4
  by_cases hlt : i < s.c.n
  · (first | focus (refine yy10 ?_; refine aw_condp rfl (fun hc => ?_) (fun hc => ?_); refine yy26 ?_; refine yy2 ?_; refine yy24 ?_; refine yy2 ?_; refine yy61 ?_; refine yy59 ?_; refine yy71 ?_; refine yy61 ?_; refine yy94 ?_; (refine zc auto_wl (hcp _) ?_; rintro r H' ⟨rfl, rfl⟩); refine yy61 ?_; refine yy67 ?_; refine yy3 ?_; rotate_left; exact absurd hc auto_no) | fail)
    have q5 : SAt _ F' (tellK s m i) := (q1.set (x := .cel ({ m with to := (i : Int) } : Mg).cells) q3)
    have hS := send_calls _ F' (tellK s m i) { m with to := (i : Int) } q5 (by rw [k1]; exact hf) (by omega)
    rw [q2.o, q2.os] at hS
    clear q5
    (first | focus (refine yy39 ?_; refine yy17 ?_; refine yy100 ?_; (refine zc auto_wl (hS) ?_; rintro r H' ⟨rfl, F2, b1, b2⟩); refine yy7 ?_; refine yy23 ?_; rotate_left) | fail)
    obtain ⟨c1, c2⟩ := b2.keep (AHeap.set_self _ _ _) q3
    exact ⟨mm - 1, _, _, by omega, auto_ent, i + 1, F2, (i : Int), by rw [ks]; exact b1, (q2.set hoM).trans b2, c2, c1, rfl, by omega⟩
  obtain rfl : i = s.c.n := by omega
  (first | focus (refine yy10 ?_; refine yy85 ?_; intro hc; refine yy105 ?_; rotate_left) | fail)
  exact ⟨.inr rfl, _, _, _, Ent.refl _ _, ret0 rfl, rfl, F', q1, q2⟩
/-! The list is laid before the others. -/
def layK (s : Ag.St) (k : Nat) : Ag.St := (List.range k).foldl (fun (s : Ag.St) (to : Nat) => s.out (Ag.layM s.c to)) s
theorem layK_small (s : Ag.St) : ∀ (k : Nat), (layK s k).c = s.c ∧ (layK s k).send.length ≤ s.send.length + k ∧ (layK s k).save = s.save ∧ layK s (k + 1) = (layK s k).out (Ag.layM s.c k)
  | 0 => ⟨rfl, Nat.le_refl _, rfl, rfl⟩
  | k + 1 => by
    obtain ⟨h1, h2, h3, h4⟩ := layK_small s k
    obtain ⟨k1, k2, k3⟩ := out_small (layK s k) (Ag.layM s.c k)
    have h5 : layK s (k + 1 + 1) = (layK s (k + 1)).out (Ag.layM (layK s (k + 1)).c (k + 1)) := by
      unfold layK; rw [List.range_succ, List.foldl_append]; rfl
    have h6 : (layK s (k + 1)).c = s.c := by rw [h4, k1, h1]
    exact ⟨h6, by rw [h4]; omega, by rw [h4, k3, h3], by rw [h5, h6]⟩
theorem lay_calls (H : AHeap) (F : Ob) (s : Ag.St) (h : SAt H F s) (hf : CFine s.c) (hl : s.send.length ≤ 10000) :
    ACalls Try.prog 66 [.ptr F.o 0, .ptr F.os 0] H fun r H' => r = .tup [] ∧ ∃ F', SAt H' F' s.lay ∧ Turn F.l H F F' H' := by
  have h0 := h
  obtain ⟨⟨⟨off, xs, hco, hw, hx1, hx2⟩, ⟨eg, hg, hg2⟩, ⟨eh, hh, hh2⟩⟩, hst, hsv, hsn, nd⟩ := h
  have f2 := hf.n
  have f3 := hf.agr
  have hml := hf.list.len
  have hcp := fun H => (copies_own H s.c.list (by omega) fun e he => by have := (hf.list.ok e he).2; omega).seal_cel (flat_len (sz := 3) (fun _ => rfl) s.c.list)
  unfold coreC at hco
  refine acalls_of_aw2 Try.func66 rfl (by decide) ?_
  (first | focus (refine yy4 ?_; refine yy8 ?_; refine yy56 ?_; rotate_left) | fail)
  refine aw_loop (fun mm R' H2 => ∃ (i : Nat) (F' : Ob), SAt H2 F' (layK s i) ∧ Turn F.l H F F' H2 ∧ R' = [(0, .ptr F.o 0), (1, .ptr F.os 0), (11, mI (s.c.n : Int)), (12, .raw (.int .i64 (i : Int)))] ∧ i + mm = s.c.n) ?_ ?_
  · exact ⟨s.c.n, _, _, auto_ent, 0, F, h0, Turn.refl _ _ _, rfl, by omega⟩
  clear hst hsv hsn hg hh hw hco hx1 hx2 xs off h0 nd hg2 hh2
  rintro mm R0 H2 ⟨i, F', q1, q2, rfl, hi⟩
  obtain ⟨k1, k2, k3, ks⟩ := layK_small s i
  have p1 := q1
  obtain ⟨⟨⟨off, xs, hco, hw, hx1, hx2⟩, ⟨eg, hg, hg2⟩, ⟨eh, hh, hh2⟩⟩, hst, hsv, hsn, nd⟩ := p1
  have p2 := q2
  have d1 := nd.o_oh
  clear nd hst hsv hsn hg hg2 hw hx1 hx2 xs
  rw [k1] at hco
  unfold coreC at hco
  rw [q2.o] at hco d1
  by_cases hlt : i < s.c.n
  · have hheld := hh2.get (i : Int)
    rw [if_pos (by omega), Int.toNat_natCast, k1] at hheld
    cases hq : s.c.held i with
    | none =>
      rw [hq, Option.map_none] at hheld
      have v1 : (eh.get (i : Int)).getD (.raw (.int .u64 0)) = .raw (.int .u64 0) := by rw [hheld]; rfl
      have v2 : (eh.get (i : Int)).isSome = false := by rw [hheld]; rfl
      (first | focus (refine yy10 ?_; refine aw_condp rfl (fun hc => ?_) (fun hc => ?_); refine yy26 ?_; refine yy2 ?_; refine yy6 ?_; refine aw_seq ?_; refine DC.aw_drawp (fun H' => H' F.o = some (.cel [mI s.c.me, mI s.c.n, uI s.c.view, uI s.c.last, lsE s.c.list, mI s.c.agreed, bB s.c.lead, mI s.c.quiet, .mp F'.og, .mp F'.oh, .vw F'.ow 3 off s.c.wait.length])) (by first | exact auto_heap) auto_kr auto_dk auto_dk ?_; (apply DC.awn_s; · (intro H1 hPsi; (try dsimp only at hPsi); (try (obtain ⟨hPsi, hPsi2⟩ := hPsi)); exact s_move (v := .raw _) rfl)); (apply DC.awn_s; · (intro H1 hPsi; (try dsimp only at hPsi); (try (obtain ⟨hPsi, hPsi2⟩ := hPsi)); exact s_move (v := .ptr _ _) rfl)); (apply DC.awn_s; · (intro H1 hPsi; (try dsimp only at hPsi); (try (obtain ⟨hPsi, hPsi2⟩ := hPsi)); exact s_nilCheck_ptr rfl)); (apply DC.awn_s; · (intro H1 hPsi; (try dsimp only at hPsi); (try (obtain ⟨hPsi, hPsi2⟩ := hPsi)); exact s_fieldAddr_ptr rfl)); (apply DC.awn_s; · (intro H1 hPsi; (try dsimp only at hPsi); (try (obtain ⟨hPsi, hPsi2⟩ := hPsi)); exact s_load_cel rfl auto_heap rfl)); (apply DC.awn_s; · (intro H1 hPsi; (try dsimp only at hPsi); (try (obtain ⟨hPsi, hPsi2⟩ := hPsi)); exact s_len_sls rfl)); (apply DC.awn_s; · (intro H1 hPsi; (try dsimp only at hPsi); (try (obtain ⟨hPsi, hPsi2⟩ := hPsi)); exact s_convn rfl (by omega))); (apply DC.awn_s; · (intro H1 hPsi; (try dsimp only at hPsi); (try (obtain ⟨hPsi, hPsi2⟩ := hPsi)); exact s_move (v := .ptr _ _) rfl)); (apply DC.awn_s; · (intro H1 hPsi; (try dsimp only at hPsi); (try (obtain ⟨hPsi, hPsi2⟩ := hPsi)); exact s_nilCheck_ptr rfl)); (apply DC.awn_s; · (intro H1 hPsi; (try dsimp only at hPsi); (try (obtain ⟨hPsi, hPsi2⟩ := hPsi)); exact s_fieldAddr_ptr rfl)); (apply DC.awn_s; · (intro H1 hPsi; (try dsimp only at hPsi); (try (obtain ⟨hPsi, hPsi2⟩ := hPsi)); exact s_load_cel rfl auto_heap rfl)); (apply DC.awn_s; · (intro H1 hPsi; (try dsimp only at hPsi); (try (obtain ⟨hPsi, hPsi2⟩ := hPsi)); exact s_convn rfl (by omega))); (apply DC.awn_s; · (intro H1 hPsi; (try dsimp only at hPsi); (try (obtain ⟨hPsi, hPsi2⟩ := hPsi)); exact s_buildv (by ((repeat' (first | exact eqL_nil | apply eqL_cons)); all_goals (first | exact (rfl : _ = AV.raw _) | exact (rfl : _ = AV.bys _) | exact (rfl : _ = AV.vw _ _ _ _) | exact (rfl : _ = AV.ptr _ _) | exact (rfl : _ = AV.str _) | exact (rfl : _ = AV.sls _ _) | exact (rfl : _ = AV.tup _) | exact (rfl : _ = AV.agg _) | exact (rfl : _ = AV.pce _ _) | exact (rfl : _ = AV.emp) | exact (rfl : _ = AV.bysx _) | exact (rfl : _ = AV.slsx _ _) | exact (rfl : _ = AV.mp _) | exact (rfl : _ = AV.fnc _ _ _) | exact (rfl : _ = AV.pby _ _) | exact (rfl : _ = AV.ifc _ _)))) (by rfl))); refine DC.awn_b ?_; refine DC.awn_b0 ?_; refine DC.awn_nil ?_; refine DC.awc_cons (fun Rx K1 hK1x => ?_); refine awl_alloc rfl rfl rfl (fun oN hoN => ?_); refine yy7 ?_; (refine hK1x _ _ (by first | exact Or.inl (by decide +kernel) | (refine Or.inr ?_; (try dsimp only); first | exact auto_heap)) ?_; clear hK1x K1 Rx); refine DC.awc_cons0 (fun Rx K1 hK1x => ?_); refine yy78 ?_; refine yy7 ?_; (refine hK1x _ (by first | exact Or.inl (by decide +kernel) | (refine Or.inr ?_; (try dsimp only); first | exact auto_heap)) ?_; clear hK1x K1 Rx); refine DC.awc_nil ?_; refine yy47 ?_; refine yy12 ?_; refine yy8 ?_; refine yy2 ?_; refine yy107 ?_; refine yy73 ?_; refine yy30 ?_; refine yy24 ?_; refine yy2 ?_; refine yy37 ?_; refine yy2 ?_; refine yy34 ?_; refine yy34 ?_; refine yy48 ?_; refine yy42 ?_; refine aw_region ?_; refine yy8 ?_; (refine zc auto_wl (hcp _) ?_; rintro r H' ⟨rfl, rfl⟩); refine yy61 ?_; refine yy67 ?_; refine yy61 ?_; refine yy67 ?_; refine yy3 ?_; rotate_left; exact absurd hc auto_no) | fail)
      have hL : Ag.layM s.c i = ⟨4, 0, (i : Int), 0, 0, s.c.list.length, s.c.agreed, s.c.list, []⟩ := by simp [Ag.layM, Ag.msg0, hq]
      have hS : ∀ x, ACalls Try.prog 40 [.ptr F.o 0, .ptr F.os 0, .agg [mI 4, mI 0, mI (i : Int), uI 0, uI 0, uI s.c.list.length, uI s.c.agreed, lsE s.c.list, .raw (.slice none 0 0)]] (H2.set oN (.cel x)) fun r H' => r = .tup [] ∧ ∃ F2, SAt H' F2 ((layK s i).out (Ag.layM s.c i)) ∧ Turn F'.l (H2.set oN (.cel x)) F' F2 H' := fun x => by
        have h1 := send_calls (H2.set oN (.cel x)) F' (layK s i) (Ag.layM s.c i) (q1.set (q1.notin hoN)) (by rw [k1]; exact hf) (by omega)
        rw [q2.o, q2.os] at h1
        refine h1.weak (WL.cons (W.of rfl) (WL.cons (W.of rfl) (WL.cons ?_ WL.nil)))
        rw [hL]
        exact w_agg (WL.cons (W.of rfl) (WL.cons (W.of rfl) (WL.cons (W.of rfl) (WL.cons (W.of rfl) (WL.cons (W.of rfl) (WL.cons (W.of rfl) (WL.cons (W.of rfl) (WL.cons (W.of rfl) (WL.cons (W.nilb rfl) WL.nil)))))))))
      (first | focus (refine yy39 ?_; refine yy17 ?_; refine yy100 ?_; (refine zc auto_wl (hS _) ?_; rintro r H' ⟨rfl, F2, b1, b2⟩); refine yy7 ?_; refine yy23 ?_; rotate_left) | fail)
      exact ⟨mm - 1, _, _, by omega, auto_ent, i + 1, F2, by rw [ks]; exact b1, (q2.set1 hoN).trans b2, rfl, by omega⟩
    | some hd =>
      rw [hq, Option.map_some] at hheld
      have v1 : (eh.get (i : Int)).getD (.raw (.int .u64 0)) = .raw (.int .u64 (hd : Int)) := by rw [hheld]; rfl
      have v2 : (eh.get (i : Int)).isSome = true := by rw [hheld]; rfl
      (first | focus (refine yy10 ?_; refine aw_condp rfl (fun hc => ?_) (fun hc => ?_); refine yy26 ?_; refine yy2 ?_; refine yy6 ?_; refine aw_seq ?_; refine DC.aw_drawp (fun H' => H' F.o = some (.cel [mI s.c.me, mI s.c.n, uI s.c.view, uI s.c.last, lsE s.c.list, mI s.c.agreed, bB s.c.lead, mI s.c.quiet, .mp F'.og, .mp F'.oh, .vw F'.ow 3 off s.c.wait.length])) (by first | exact auto_heap) auto_kr auto_dk auto_dk ?_; (apply DC.awn_s; · (intro H1 hPsi; (try dsimp only at hPsi); (try (obtain ⟨hPsi, hPsi2⟩ := hPsi)); exact s_move (v := .raw _) rfl)); (apply DC.awn_s; · (intro H1 hPsi; (try dsimp only at hPsi); (try (obtain ⟨hPsi, hPsi2⟩ := hPsi)); exact s_move (v := .ptr _ _) rfl)); (apply DC.awn_s; · (intro H1 hPsi; (try dsimp only at hPsi); (try (obtain ⟨hPsi, hPsi2⟩ := hPsi)); exact s_nilCheck_ptr rfl)); (apply DC.awn_s; · (intro H1 hPsi; (try dsimp only at hPsi); (try (obtain ⟨hPsi, hPsi2⟩ := hPsi)); exact s_fieldAddr_ptr rfl)); (apply DC.awn_s; · (intro H1 hPsi; (try dsimp only at hPsi); (try (obtain ⟨hPsi, hPsi2⟩ := hPsi)); exact s_load_cel rfl auto_heap rfl)); (apply DC.awn_s; · (intro H1 hPsi; (try dsimp only at hPsi); (try (obtain ⟨hPsi, hPsi2⟩ := hPsi)); exact s_len_sls rfl)); (apply DC.awn_s; · (intro H1 hPsi; (try dsimp only at hPsi); (try (obtain ⟨hPsi, hPsi2⟩ := hPsi)); exact s_convn rfl (by omega))); (apply DC.awn_s; · (intro H1 hPsi; (try dsimp only at hPsi); (try (obtain ⟨hPsi, hPsi2⟩ := hPsi)); exact s_move (v := .ptr _ _) rfl)); (apply DC.awn_s; · (intro H1 hPsi; (try dsimp only at hPsi); (try (obtain ⟨hPsi, hPsi2⟩ := hPsi)); exact s_nilCheck_ptr rfl)); (apply DC.awn_s; · (intro H1 hPsi; (try dsimp only at hPsi); (try (obtain ⟨hPsi, hPsi2⟩ := hPsi)); exact s_fieldAddr_ptr rfl)); (apply DC.awn_s; · (intro H1 hPsi; (try dsimp only at hPsi); (try (obtain ⟨hPsi, hPsi2⟩ := hPsi)); exact s_load_cel rfl auto_heap rfl)); (apply DC.awn_s; · (intro H1 hPsi; (try dsimp only at hPsi); (try (obtain ⟨hPsi, hPsi2⟩ := hPsi)); exact s_convn rfl (by omega))); (apply DC.awn_s; · (intro H1 hPsi; (try dsimp only at hPsi); (try (obtain ⟨hPsi, hPsi2⟩ := hPsi)); exact s_buildv (by ((repeat' (first | exact eqL_nil | apply eqL_cons)); all_goals (first | exact (rfl : _ = AV.raw _) | exact (rfl : _ = AV.bys _) | exact (rfl : _ = AV.vw _ _ _ _) | exact (rfl : _ = AV.ptr _ _) | exact (rfl : _ = AV.str _) | exact (rfl : _ = AV.sls _ _) | exact (rfl : _ = AV.tup _) | exact (rfl : _ = AV.agg _) | exact (rfl : _ = AV.pce _ _) | exact (rfl : _ = AV.emp) | exact (rfl : _ = AV.bysx _) | exact (rfl : _ = AV.slsx _ _) | exact (rfl : _ = AV.mp _) | exact (rfl : _ = AV.fnc _ _ _) | exact (rfl : _ = AV.pby _ _) | exact (rfl : _ = AV.ifc _ _)))) (by rfl))); refine DC.awn_b ?_; refine DC.awn_b0 ?_; refine DC.awn_nil ?_; refine DC.awc_cons (fun Rx K1 hK1x => ?_); refine awl_alloc rfl rfl rfl (fun oN hoN => ?_); refine yy7 ?_; (refine hK1x _ _ (by first | exact Or.inl (by decide +kernel) | (refine Or.inr ?_; (try dsimp only); first | exact auto_heap)) ?_; clear hK1x K1 Rx); refine DC.awc_cons0 (fun Rx K1 hK1x => ?_); refine yy78 ?_; refine yy7 ?_; (refine hK1x _ (by first | exact Or.inl (by decide +kernel) | (refine Or.inr ?_; (try dsimp only); first | exact auto_heap)) ?_; clear hK1x K1 Rx); refine DC.awc_nil ?_; refine yy47 ?_; refine yy12 ?_; refine yy8 ?_; refine yy2 ?_; refine yy107 ?_; refine yy73 ?_; refine yy30 ?_; refine yy24 ?_; refine yy2 ?_; refine yy37 ?_; refine yy19 ?_; refine yy19 ?_; refine yy36 ?_; refine yy81 ?_; refine yy33 ?_; refine yy32 ?_; refine yy5 ?_; refine awl_s rfl (s_convn rfl (by omega)) ?_; refine yy5 ?_; refine yy98 ?_; refine yy43 ?_; refine aw_condp rfl (fun hc => ?_) (fun hc => ?_); refine aw_region ?_; refine yy8 ?_; (refine zc auto_wl (hcp _) ?_; rintro r H' ⟨rfl, rfl⟩); refine yy61 ?_; refine yy67 ?_; refine yy61 ?_; refine yy67 ?_; refine yy3 ?_; rotate_left; refine yy66 ?_; rotate_left; exact absurd hc auto_no) | fail)
      · have hc2 : hd < s.c.list.length := by omega
        have hL : Ag.layM s.c i = ⟨4, 0, (i : Int), 0, 0, s.c.list.length, s.c.agreed, s.c.list, []⟩ := by simp [Ag.layM, Ag.msg0, hq, hc2]
        have hS : ∀ x, ACalls Try.prog 40 [.ptr F.o 0, .ptr F.os 0, .agg [mI 4, mI 0, mI (i : Int), uI 0, uI 0, uI s.c.list.length, uI s.c.agreed, lsE s.c.list, .raw (.slice none 0 0)]] (H2.set oN (.cel x)) fun r H' => r = .tup [] ∧ ∃ F2, SAt H' F2 ((layK s i).out (Ag.layM s.c i)) ∧ Turn F'.l (H2.set oN (.cel x)) F' F2 H' := fun x => by
          have h1 := send_calls (H2.set oN (.cel x)) F' (layK s i) (Ag.layM s.c i) (q1.set (q1.notin hoN)) (by rw [k1]; exact hf) (by omega)
          rw [q2.o, q2.os] at h1
          refine h1.weak (WL.cons (W.of rfl) (WL.cons (W.of rfl) (WL.cons ?_ WL.nil)))
          rw [hL]
          exact w_agg (WL.cons (W.of rfl) (WL.cons (W.of rfl) (WL.cons (W.of rfl) (WL.cons (W.of rfl) (WL.cons (W.of rfl) (WL.cons (W.of rfl) (WL.cons (W.of rfl) (WL.cons (W.of rfl) (WL.cons (W.nilb rfl) WL.nil)))))))))
        (first | focus (refine yy39 ?_; refine yy17 ?_; refine yy100 ?_; (refine zc auto_wl (hS _) ?_; rintro r H' ⟨rfl, F2, b1, b2⟩); refine yy7 ?_; refine yy23 ?_; rotate_left) | fail)
        exact ⟨mm - 1, _, _, by omega, auto_ent, i + 1, F2, by rw [ks]; exact b1, (q2.set1 hoN).trans b2, rfl, by omega⟩
      · have hc2 : ¬ hd < s.c.list.length := by omega
        have hL : Ag.layM s.c i = ⟨6, 0, (i : Int), 0, 0, s.c.list.length, s.c.agreed, [], []⟩ := by simp [Ag.layM, Ag.msg0, hq, hc2]
        have hS : ∀ x, ACalls Try.prog 40 [.ptr F.o 0, .ptr F.os 0, .agg [mI 6, mI 0, mI (i : Int), uI 0, uI 0, uI s.c.list.length, uI s.c.agreed, .raw (.slice none 0 0), .raw (.slice none 0 0)]] (H2.set oN (.cel x)) fun r H' => r = .tup [] ∧ ∃ F2, SAt H' F2 ((layK s i).out (Ag.layM s.c i)) ∧ Turn F'.l (H2.set oN (.cel x)) F' F2 H' := fun x => by
          have h1 := send_calls (H2.set oN (.cel x)) F' (layK s i) (Ag.layM s.c i) (q1.set (q1.notin hoN)) (by rw [k1]; exact hf) (by omega)
          rw [q2.o, q2.os] at h1
          refine h1.weak (WL.cons (W.of rfl) (WL.cons (W.of rfl) (WL.cons ?_ WL.nil)))
          rw [hL]
          exact w_agg (WL.cons (W.of rfl) (WL.cons (W.of rfl) (WL.cons (W.of rfl) (WL.cons (W.of rfl) (WL.cons (W.of rfl) (WL.cons (W.of rfl) (WL.cons (W.of rfl) (WL.cons (W.nils rfl) (WL.cons (W.nilb rfl) WL.nil)))))))))
        (first | focus (refine yy39 ?_; refine yy17 ?_; refine yy100 ?_; (refine zc auto_wl (hS _) ?_; rintro r H' ⟨rfl, F2, b1, b2⟩); refine yy7 ?_; refine yy23 ?_; rotate_left) | fail)
        exact ⟨mm - 1, _, _, by omega, auto_ent, i + 1, F2, by rw [ks]; exact b1, (q2.set1 hoN).trans b2, rfl, by omega⟩
  obtain rfl : i = s.c.n := by omega
  (first | focus (refine yy10 ?_; refine yy85 ?_; intro hc; refine yy105 ?_; rotate_left) | fail)
  exact ⟨.inr rfl, _, _, _, Ent.refl _ _, ret0 rfl, rfl, F', q1, q2⟩
end Go.Proofs.Ytbciofnejefkiaa

namespace Go.Proofs.Ytbciofnejefkiaa
open Go Go.Am Go.Proofs
set_option linter.unusedSimpArgs false
set_option linter.unusedVariables false
set_option maxRecDepth 20000
set_option maxHeartbeats 4000000

/-! Few numbers are sorted. -/
theorem isNaN_calls (H : AHeap) (a : Nat) : ACalls Try.prog 113 [uI a] H fun r H' => r = bB false ∧ H' = H := by
  refine acalls_of_aw1 Try.func113 rfl (by decide) ?_
  (first | focus (refine yy46 ?_; refine yy2 ?_; refine yy2 ?_; refine yy70 ?_; refine yy9 ?_; rotate_left) | fail)
  exact ⟨.inl rfl, _, _, _, Ent.refl _ _, ret1 rfl rfl, by rw [show (false : Bool) = decide (a ≠ a) from by simp]; rfl, rfl⟩
theorem Less_calls (H : AHeap) (a b : Nat) : ACalls Try.prog 102 [uI a, uI b] H fun r H' => r = bB (decide (a < b)) ∧ H' = H := by
  refine acalls_of_aw2 Try.func102 rfl (by decide) ?_
  (first | focus (refine yy46 ?_; refine yy2 ?_; (refine zc auto_wl (isNaN_calls _ _) ?_; rintro r H' ⟨rfl, rfl⟩); refine yy2 ?_; refine yy54 ?_; refine yy41 ?_; refine yy20 ?_; refine yy19 ?_; refine yy19 ?_; refine yy19 ?_; refine yy98 ?_; refine yy20 ?_; refine yy9 ?_; rotate_left) | fail)
  exact ⟨.inl rfl, _, _, _, Ent.refl _ _, ret1 rfl rfl, rfl, rfl⟩
theorem Len64_calls (H : AHeap) (v : Nat) (hv : v ≤ 7) : ACalls Try.prog 106 [uI v] H fun r H' => (∃ z : Int, r = mI z) ∧ H' = H := by
  refine acalls_of_aw1 Try.func106 rfl (by decide) ?_
  (first | focus (refine yy4 ?_; refine yy6 ?_; refine yy11 ?_; refine yy97 ?_; refine yy3 ?_; refine yy53 ?_; intro hc; refine yy11 ?_; refine yy97 ?_; refine yy3 ?_; refine yy53 ?_; intro hc; refine yy11 ?_; refine yy97 ?_; refine yy3 ?_; refine yy53 ?_; intro hc; refine yy50 ?_; refine yy2 ?_; refine awl_s rfl (s_convn rfl (by omega)) ?_; refine awl_s rfl (s_index_str rfl rfl auto_len) ?_; refine awl_s rfl (s_convi rfl (Int.le_trans (by decide) (Int.natCast_nonneg _)) (Int.ofNat_le.2 (Nat.le_of_lt (Nat.lt_trans (UInt8.toNat_lt _) (by decide))))) ?_; refine awl_s rfl (s_add (k := .i64) rfl rfl) ?_; refine yy9 ?_; rotate_left) | fail)
  exact ⟨.inl rfl, _, _, _, Ent.refl _ _, ret1 rfl rfl, ⟨_, rfl⟩, rfl⟩
theorem Len_calls (H : AHeap) (v : Nat) (hv : v ≤ 7) : ACalls Try.prog 92 [uI v] H fun r H' => (∃ z : Int, r = mI z) ∧ H' = H := by
  refine acalls_of_aw1 Try.func92 rfl (by decide) ?_
  (first | focus (refine yy4 ?_; refine yy6 ?_; refine aw_seq ?_; refine yy68 ?_; refine yy50 ?_; (refine zc auto_wl (Len64_calls _ v hv) ?_; rintro r H' ⟨⟨z, rfl⟩, rfl⟩); refine yy9 ?_; rotate_left) | fail)
  exact ⟨.inl rfl, _, _, _, Ent.refl _ _, ret1 rfl rfl, ⟨_, rfl⟩, rfl⟩
theorem swap2 (U R : List Nat) (y x : Nat) : (((U ++ y :: x :: R).map uI).set (U.length + 1) (uI y)).set U.length (uI x) = (U ++ x :: y :: R).map uI := by
  simp [List.map_append, List.set_append]
theorem le_insert {S1 S2 : List Nat} {x : Nat} (h : (S1 ++ S2).Pairwise (· ≤ ·)) (h1 : ∀ z ∈ S1.getLast?, z ≤ x) (h2 : ∀ z ∈ S2.head?, x ≤ z) : (S1 ++ x :: S2).Pairwise (· ≤ ·) := by
  obtain ⟨a1, a2, a3⟩ := List.pairwise_append.1 h
  have b1 : ∀ z ∈ S1, z ≤ x := by
    rcases List.eq_nil_or_concat S1 with rfl | ⟨U, y, e⟩
    · simp
    · rw [List.concat_eq_append] at e
      subst e
      have hy := h1 y (by simp)
      intro z hz
      rcases List.mem_append.1 hz with hz | hz
      · exact Nat.le_trans ((List.pairwise_append.1 a1).2.2 z hz y (by simp)) hy
      · rw [List.mem_singleton.1 hz]; exact hy
  have b2 : ∀ z ∈ S2, x ≤ z := by
    cases S2 with
    | nil => simp
    | cons y U =>
      have hy := h2 y (by simp)
      intro z hz
      rcases List.mem_cons.1 hz with rfl | hz
      · exact hy
      · exact Nat.le_trans hy ((List.pairwise_cons.1 a2).1 z hz)
  refine List.pairwise_append.2 ⟨a1, List.pairwise_cons.2 ⟨b2, a2⟩, fun z hz w hw => ?_⟩
  rcases List.mem_cons.1 hw with rfl | hw
  · exact b1 z hz
  · exact a3 z hz w hw
theorem last_of {S1 : List Nat} {j : Nat} (h : S1.length = j) (hj : 0 < j) : ∃ U y, S1 = U ++ [y] ∧ U.length = j - 1 := by
  rcases List.eq_nil_or_concat S1 with rfl | ⟨U, y, e⟩
  · simp at h; omega
  · rw [List.concat_eq_append] at e; subst e; exact ⟨U, y, rfl, by simp at h; omega⟩
theorem heap_id {H : AHeap} {o : Nat} {x : AO} (h : H o = some x) : H.set o x = H := funext fun p => by
  simp only [AHeap.set]; split
  · next e => rw [e]; exact h.symm
  · rfl
theorem insN_calls (H : AHeap) (oS n : Nat) (l : List Nat) (hS : H oS = some (.cel (l.map uI))) (hn : n = l.length) (h7 : n ≤ 1000) :
    ACalls Try.prog 96 [.vw oS 1 0 n, mI 0, mI (n : Int)] H fun r H' => r = .tup [] ∧ ∃ S : List Nat, S.Perm l ∧ S.Pairwise (· ≤ ·) ∧ H' = H.set oS (.cel (S.map uI)) := by
  have hid := heap_id hS
  have hn2 : ((n : Nat) : Int) = ((n : Nat) : Int) := rfl
  refine acalls_of_aw3 Try.func96 rfl (by decide) ?_
  (first | focus (refine yy50 ?_; refine yy74 ?_; refine yy6 ?_; refine aw_block ?_; rotate_left) | fail)
  refine aw_loop (fun mm R' H2 => ∃ (i : Nat) (P Q S : List Nat), l = P ++ Q ∧ (P.length = i ∨ i = 1 ∧ l = []) ∧ 0 < i ∧ S.Perm P ∧ S.Pairwise (· ≤ ·) ∧ H2 = H.set oS (.cel ((S ++ Q).map uI)) ∧ R' = [(0, .vw oS 1 0 n), (1, mI 0), (2, mI (n : Int)), (6, .raw (.int .i64 (i : Int)))] ∧ Q.length = mm) ?_ ?_
  · cases l with
    | nil => exact ⟨0, _, _, auto_ent, 1, [], [], [], rfl, .inr ⟨rfl, rfl⟩, by decide, List.Perm.refl _, List.Pairwise.nil, by simpa using hid.symm, rfl, rfl⟩
    | cons x l => exact ⟨l.length, _, _, auto_ent, 1, [x], l, [x], rfl, .inl rfl, by decide, List.Perm.refl _, List.pairwise_singleton _ _, by simpa using hid.symm, rfl, rfl⟩
  rintro mm R0 H2 ⟨i, P, Q, S, hl, hi, hi0, hSP, hSs, rfl, rfl, rfl⟩
  have hSl := hSP.length_eq
  have hnl : n = P.length + Q.length := by rw [hn, hl, List.length_append]
  by_cases hlt : i < n
  · have hPi : P.length = i := by rcases hi with h | ⟨_, h⟩; exact h; rw [h] at hn; simp at hn; omega
    obtain ⟨x, Q, rfl⟩ : ∃ y W, Q = y :: W := by cases Q with | nil => simp at hnl; omega | cons c d => exact ⟨c, d, rfl⟩
    simp only [List.length_cons] at hnl
    have hSPh := Hdq.mk hSP
    have hSh := Hdq.mk hS
    clear hSP hS hi hid
    (first | focus (refine yy11 ?_; refine yy2 ?_; refine yy57 ?_; refine aw_condp rfl (fun hc => ?_) (fun hc => ?_); refine yy26 ?_; refine yy2 ?_; refine yy6 ?_; refine aw_block ?_; rotate_left; exact absurd hc auto_no) | fail)
    all_goals try (exfalso; omega)
    refine aw_loop (fun mm2 R' H3 => ∃ (j : Nat) (S1 S2 : List Nat), S = S1 ++ S2 ∧ S1.length = j ∧ (∀ z ∈ S2.head?, x ≤ z) ∧ H3 = H.set oS (.cel ((S1 ++ x :: (S2 ++ Q)).map uI)) ∧ R' = [(0, .vw oS 1 0 n), (1, mI 0), (2, mI (n : Int)), (6, .raw (.int .i64 (i : Int))), (7, .raw (.int .i64 (j : Int)))] ∧ S1.length = mm2) ?_ ?_
    · exact ⟨S.length, _, _, auto_ent, i, S, [], by simp, by omega, fun z hz => (by cases hz), by simp, rfl, rfl⟩
    rintro mm2 R1 H3 ⟨j, S1, S2, rfl, hj, hh2, rfl, rfl, rfl⟩
    simp only [List.length_append] at hSl
    by_cases hja : 0 < j
    · obtain ⟨U, y, rfl, hU⟩ := last_of hj hja
      have hsw := swap2 U (S2 ++ Q) y x
      rw [hU, show j - 1 + 1 = j by omega] at hsw
      have hws : (U ++ [y]) ++ x :: (S2 ++ Q) = U ++ y :: x :: (S2 ++ Q) := by simp
      rw [hws]
      have g1 : (U ++ y :: x :: (S2 ++ Q))[j - 1]? = some y := by rw [← hU]; simp
      have g2 : (U ++ y :: x :: (S2 ++ Q))[j]? = some x := by rw [show j = U.length + 1 by omega]; simp
      have g3 : (U ++ y :: x :: (S2 ++ Q)).length = n := by simp at hSl ⊢; omega
      have g4 : ((U ++ y :: x :: (S2 ++ Q)).map uI).length = n := by rw [List.length_map]; exact g3
      generalize hW : U ++ y :: x :: (S2 ++ Q) = ws at *
      have hSs2 := Hdq.mk hSs
      have hWh := Hdq.mk hW
      clear hSs hW hws
      (first | focus (refine aw_seq ?_; refine yy16 ?_; (apply awt_s; · exact s_move (v := .raw _) rfl); (apply awt_s; · exact s_move (v := .raw _) rfl); (apply awt_s; · exact s_gtn rfl rfl); (apply awt_s; · exact s_move (v := .raw _) rfl); refine zt1 rfl rfl rfl (fun hc => ?_) (fun hc => ?_); (apply awt_s; · exact s_move (v := .vw _ _ _ _) rfl); refine yy1 ?_; (apply awt_s; · exact s_move (v := .raw _) rfl); refine yy1 ?_; (apply awt_s; · exact s_indexAddr_vw rfl rfl auto_len); refine yy1 ?_; (apply awt_s; · exact s_load_cel rfl auto_heap auto_idx); refine yy1 ?_; (apply awt_s; · exact s_move (v := .vw _ _ _ _) rfl); refine yy1 ?_; (apply awt_s; · exact s_move (v := .raw _) rfl); refine yy1 ?_; (apply awt_s; · exact s_subn rfl rfl (by omega) (by omega)); refine yy1 ?_; (apply awt_s; · exact s_indexAddr_vw rfl rfl auto_len); refine yy1 ?_; (apply awt_s; · exact s_load_cel rfl auto_heap auto_idx); refine yy1 ?_; (apply awt_s; · exact s_callc auto_wl (Less_calls _ x y)); (apply awt_s; · exact s_pick_t (v := .raw _) rfl rfl); refine yy13 ?_; refine aw_condp rfl (fun hc => ?_) (fun hc => ?_); refine yy83 ?_; refine aw_block ?_; refine aw_draw2 false auto_kr auto_dk auto_dk ?_; (apply awm_s; · (intro H1; exact s_move (v := .vw _ _ _ _) rfl)); (apply awm_s; · (intro H1; exact s_move (v := .raw _) rfl)); (apply awm_s; · (intro H1; exact s_move (v := .vw _ _ _ _) rfl)); (apply awm_s; · (intro H1; exact s_move (v := .raw _) rfl)); (apply awm_s; · (intro H1; exact s_subn rfl rfl (by omega) (by omega))); (apply awm_s; · (intro H1; exact s_move (v := .vw _ _ _ _) rfl)); (apply awm_s; · (intro H1; exact s_move (v := .raw _) rfl)); (apply awm_s; · (intro H1; exact s_subn rfl rfl (by omega) (by omega))); (apply awm_s; · (intro H1; exact s_indexAddr_vw rfl rfl auto_len)); (apply awm_e auto_dk; (· exact s_load_cel rfl auto_heap auto_idx)); (apply awm_s; · (intro H1; exact s_move (v := .vw _ _ _ _) rfl)); (apply awm_s; · (intro H1; exact s_move (v := .raw _) rfl)); (apply awm_s; · (intro H1; exact s_indexAddr_vw rfl rfl auto_len)); (apply awm_e auto_dk; (· exact s_load_cel rfl auto_heap auto_idx)); (apply awm_s; · (intro H1; exact s_indexAddr_vw rfl rfl auto_len)); refine awm_b0 ?_; (apply awm_s; · (intro H1; exact s_indexAddr_vw rfl rfl auto_len)); refine awm_b0 ?_; refine awm_nil ?_; refine awb_cons0 (fun Rx K1 hK1x => ?_); refine yy67 ?_; refine yy7 ?_; (refine hK1x _ ?_; clear hK1x K1 Rx); refine awb_cons0 (fun Rx K1 hK1x => ?_); refine yy67 ?_; refine yy7 ?_; (refine hK1x _ ?_; clear hK1x K1 Rx); refine awb_nil ?_; refine yy84 ?_; refine yy2 ?_; refine awl_s rfl (s_subn rfl rfl (by omega) (by omega)) ?_; refine yy6 ?_; rotate_left; refine yy105 ?_; refine yy84 ?_; refine yy2 ?_; refine yy74 ?_; refine yy6 ?_; rotate_left; exact absurd hc auto_no) | fail)
      all_goals try (exfalso; omega)
      · exact ⟨U.length, _, _, by simp, Ent.sub _ (by (repeat' (first | exact RSub.nil _ | apply RSub.cons)); all_goals rfl), j - 1, U, y :: S2, by simp, hU, fun z hz => (by simp at hz; omega), (by simp only [Nat.zero_add, Nat.mul_one]; rw [hsw]; simp), rfl, rfl⟩
      · exact ⟨Q.length, _, _, by simp, Ent.sub _ (by (repeat' (first | exact RSub.nil _ | apply RSub.cons)); all_goals rfl), i + 1, P ++ [x], Q, (U ++ [y]) ++ x :: S2, by rw [hl]; simp, .inl (by simp; omega), by omega, (List.perm_middle.trans (List.Perm.cons x hSPh.out)).trans (List.perm_append_singleton x P).symm, le_insert hSs2.out (fun z hz => (by simp at hz; omega)) hh2, by rw [← hWh.out]; simp, rfl, rfl⟩
    have hS1 : S1 = [] := List.length_eq_zero_iff.1 (by omega)
    subst hS1
    (first | focus (refine aw_seq ?_; refine yy16 ?_; (apply awt_s; · exact s_move (v := .raw _) rfl); (apply awt_s; · exact s_move (v := .raw _) rfl); (apply awt_s; · exact s_gtn rfl rfl); (apply awt_s; · exact s_move (v := .raw _) rfl); refine zt1 rfl rfl rfl (fun hc => ?_) (fun hc => ?_); exact absurd hc auto_no; refine yy15 ?_; refine yy15 ?_; refine zt4 rfl rfl ?_; (apply awt_s; · exact s_pick_f (v := .raw _) rfl rfl); refine yy13 ?_; refine aw_cond_f rfl ?_; refine yy105 ?_; refine yy84 ?_; refine yy2 ?_; refine yy74 ?_; refine yy6 ?_; rotate_left) | fail)
    all_goals try (exfalso; omega)
    exact ⟨Q.length, _, _, by simp, Ent.sub _ (by (repeat' (first | exact RSub.nil _ | apply RSub.cons)); all_goals rfl), i + 1, P ++ [x], Q, x :: S2, by rw [hl]; simp, .inl (by simp; omega), by omega, (List.Perm.cons x hSPh.out).trans (List.perm_append_singleton x P).symm, le_insert (S1 := []) hSs (fun z hz => by cases hz) hh2, by simp, rfl, rfl⟩
  (first | focus (refine yy11 ?_; refine yy2 ?_; refine yy57 ?_; refine yy85 ?_; intro hc; refine yy105 ?_; rotate_left) | fail)
  all_goals try (exfalso; omega)
  have hQ : Q = [] := List.length_eq_zero_iff.1 (by rcases hi with h | ⟨_, h⟩; omega; rw [h] at hn; simp at hn; omega)
  subst hQ
  exact ⟨.inr rfl, _, _, _, Ent.refl _ _, ret0 rfl, rfl, S, by rw [hl, List.append_nil]; exact hSP, hSs, by simp⟩
theorem Sort_calls (H : AHeap) (oS n : Nat) (l : List Nat) (hS : H oS = some (.cel (l.map uI))) (hn : n = l.length) (h7 : n ≤ 7) :
    ACalls Try.prog 80 [.vw oS 1 0 n] H fun r H' => r = .tup [] ∧ H' = H.set oS (.cel ((Ag.sort l).map uI)) := by
  have huq : ∀ S : List Nat, S.Perm l → S.Pairwise (· ≤ ·) → S = Ag.sort l := fun S h1 h2 => List.Perm.eq_of_pairwise (fun a b _ _ h k => Nat.le_antisymm h k) h2 (Ag.sort_sorted l) (h1.trans (Ag.sort_perm l).symm)
  have hpdq : ∀ (H : AHeap) (z : Int), H oS = some (.cel (l.map uI)) → ACalls Try.prog 91 [.vw oS 1 0 n, mI 0, mI (n : Int), mI z] H fun r H' => r = .tup [] ∧ H' = H.set oS (.cel ((Ag.sort l).map uI)) := by
    intro H z hS
    refine acalls_of_aw4 Try.func91 rfl (by decide) ?_
    have hI := fun H h => insN_calls H oS n l h hn (by omega)
    (first | focus (refine yy46 ?_; refine yy6 ?_; refine aw_block ?_; rotate_left) | fail)
    refine aw_loop (fun mm R' H2 => H2 = H ∧ mm = 0 ∧ R' = [(9, .raw (.bool true)), (8, .raw (.bool true)), (0, .vw oS 1 0 n), (1, mI 0), (2, mI (n : Int)), (3, mI z)]) ⟨0, _, _, auto_ent, rfl, rfl, rfl⟩ ?_
    rintro mm R0 H2 ⟨rfl, rfl, rfl⟩
    (first | focus (refine yy101 ?_; refine yy2 ?_; refine yy2 ?_; refine awl_s rfl (s_subn rfl rfl (by omega) (by omega)) ?_; refine yy6 ?_; refine yy11 ?_; refine awl_s rfl (s_len_ rfl rfl) ?_; refine yy3 ?_; refine aw_condp rfl (fun hc => ?_) (fun hc => ?_); refine yy4 ?_; refine yy52 ?_; refine yy2 ?_; refine yy2 ?_; (refine zc auto_wl (hI _ auto_heap) ?_; rintro r H' ⟨rfl, S, s1, s2, rfl⟩); refine yy25 ?_; refine yy51 ?_; refine k_block_ret ?_; rotate_left; exact absurd hc auto_no) | fail)
    all_goals try (exfalso; omega)
    exact ⟨.inl rfl, _, _, _, Ent.refl _ _, ret0 rfl, rfl, by rw [huq S s1 s2]⟩
  refine acalls_of_aw1 Try.func80 rfl (by decide) ?_
  (first | focus (refine yy4 ?_; refine yy52 ?_; refine yy87 ?_; refine yy6 ?_; refine aw_region ?_; refine yy52 ?_; refine yy2 ?_; refine yy2 ?_; refine awl_s rfl (s_convn rfl (by omega)) ?_; (refine zc auto_wl (Len_calls _ n h7) ?_; rintro r H' ⟨⟨z, rfl⟩, rfl⟩); (refine zc auto_wl (hpdq _ _ auto_heap) ?_; rintro r H' ⟨rfl, rfl⟩); refine yy7 ?_; rotate_left) | fail)
  exact ⟨.inr rfl, _, _, _, Ent.refl _ _, ret0 rfl, rfl, rfl⟩
end Go.Proofs.Ytbciofnejefkiaa

namespace Go.Proofs.Ytbciofnejefkiaa
open Go Go.Am Go.Proofs
set_option linter.unusedSimpArgs false
set_option linter.unusedVariables false
set_option maxRecDepth 20000
set_option maxHeartbeats 4000000

/-! What more than half hold is found. -/
theorem put_keys (k : Int) (v : AV) : ∀ (es : MI), ∀ x ∈ (es.put k v).map (·.1), x = k ∨ x ∈ es.map (·.1)
  | [], x, h => .inl (by simpa [MI.put] using h)
  | (a, u) :: es, x, h => by
    unfold MI.put at h
    split at h
    · rw [List.map_cons, List.mem_cons] at h
      rcases h with h | h
      · exact .inl h
      · exact .inr (List.mem_cons_of_mem _ h)
    · rw [List.map_cons, List.mem_cons] at h
      rcases h with h | h
      · exact .inr (by rw [h]; exact List.mem_cons_self)
      · rcases put_keys k v es x h with h | h
        · exact .inl h
        · exact .inr (List.mem_cons_of_mem _ h)
theorem put_nd {k : Int} {v : AV} : ∀ {es : MI}, (es.map (·.1)).Nodup → ((es.put k v).map (·.1)).Nodup
  | [], _ => by simp [MI.put]
  | (a, u) :: es, h => by
    rw [List.map_cons, List.nodup_cons] at h
    unfold MI.put
    split
    · next e => rw [List.map_cons, List.nodup_cons]; exact ⟨by rw [← e]; exact h.1, h.2⟩
    · next e =>
      rw [List.map_cons, List.nodup_cons]
      refine ⟨fun hx => ?_, put_nd h.2⟩
      rcases put_keys k v es a hx with hx | hx
      · exact e hx
      · exact h.1 hx
theorem HeldM.upd {es : MI} {c d : Ag.Co} (h : HeldM es c) (q v : Nat) (hd : d.held = Ag.upd c.held q (some v)) : HeldM (es.put (q : Int) (uI v)) d := ⟨fun k => by
  rw [get_put, h.get k, hd]
  unfold Ag.upd
  by_cases e : (q : Int) = k
  · subst e; simp
  · rw [if_neg e]
    by_cases k0 : 0 ≤ k
    · have : ¬ k.toNat = q := fun x => e (by omega)
      simp only [if_pos k0, if_neg this]
    · simp only [if_neg k0], put_nd h.nd⟩
def heldK (c : Ag.Co) (k : Nat) : List Nat := (List.range k).filterMap c.held
theorem heldK_succ (c : Ag.Co) (k : Nat) : heldK c (k + 1) = heldK c k ++ (c.held k).toList := by
  unfold heldK; rw [List.range_succ, List.filterMap_append]
  cases h : c.held k <;> simp [h]
theorem heldK_len (c : Ag.Co) (k : Nat) : (heldK c k).length ≤ k := by
  unfold heldK; exact Nat.le_trans (List.length_filterMap_le _ _) (by simp)
theorem settle_calls (H : AHeap) (F : Ob) (c : Ag.Co) (h : CAt H F c) (nd : NdC F) (hf : CFine c) :
    ACalls Try.prog 54 [.ptr F.o 0] H fun r H' => r = .tup [] ∧ CAt H' F c.settle ∧ ∀ p y, H p = some y → p ≠ F.o → p ≠ F.oh → H' p = some y := by
  obtain ⟨⟨off, xs, hco, hw, hx1, hx2⟩, ⟨eg, hg, hg2⟩, ⟨eh, hh, hh2⟩⟩ := h
  obtain ⟨n1, n2, n3, n4, n5, n6⟩ := nd
  have f1 := hf.me
  have f2 := hf.n
  have f3 := hf.list.len
  have f4 := hf.agr
  have hheld := hf.held
  have hQ := fun H h => quorum_calls H F.o c F.og F.oh (.vw F.ow 3 off c.wait.length) h f2
  unfold coreC at hco hQ
  -- what is held now
  obtain ⟨d, hd⟩ : ∃ d : Ag.Co, d = { c with held := Ag.upd c.held c.me (some c.list.length) } := ⟨_, rfl⟩
  have hes := hh2.upd (d := d) c.me c.list.length (by rw [hd])
  have hset : c.settle = if (heldK d c.n).length < c.quorum then d else { d with agreed := max c.agreed (min ((Ag.sort (heldK d c.n)).getD ((heldK d c.n).length - c.quorum) 0) c.list.length) } := by rw [hd]; rfl
  have hdh : ∀ q v, d.held q = some v → v < 2 ^ 64 := by
    intro q v hq
    rw [hd] at hq
    simp only [Ag.upd] at hq
    split at hq
    · cases hq; omega
    · exact (hheld q v hq).2
  have hdc : ∀ (og oh : Nat) (wv : AV), coreC d og oh wv = coreC c og oh wv := by intro og oh wv; rw [hd]; rfl
  have hdg : GotM eg d := by rw [hd]; exact ⟨hg2.get, hg2.len⟩
  have hdw : d.wait = c.wait := by rw [hd]
  have hdH := Hdq.mk hd
  clear hd hheld hh2
  refine acalls_of_aw1 Try.func54 rfl (by decide) ?_
  (first | focus (refine yy16 ?_; (apply awt_s; · exact s_move (v := .ptr _ _) rfl); (apply awt_s; · exact s_nilCheck_ptr rfl); (apply awt_s; · exact s_fieldAddr_ptr rfl); (apply awt_s; · exact s_load_cel rfl auto_heap rfl); (apply awt_s; · exact s_move (v := .ptr _ _) rfl); (apply awt_s; · exact s_nilCheck_ptr rfl); (apply awt_s; · exact s_fieldAddr_ptr rfl); (apply awt_s; · exact s_load_cel rfl auto_heap rfl); (apply awt_s; · exact s_move (v := .ptr _ _) rfl); (apply awt_s; · exact s_nilCheck_ptr rfl); (apply awt_s; · exact s_fieldAddr_ptr rfl); (apply awt_s; · exact s_load_cel rfl auto_heap rfl); (apply awt_s; · exact s_len_sls rfl); (apply awt_s; · exact s_convn rfl (by omega)); refine awt_last ?_; refine awl_mapUpdateI rfl rfl auto_mv auto_heap ?_; refine yy71 ?_; refine yy6 ?_; refine yy12 ?_; refine yy8 ?_; refine yy56 ?_; rotate_left) | fail)
  generalize eh.put (c.me : Int) (uI c.list.length) = es at *
  refine aw_own_nil 2 1 (.cel []) rfl rfl (fun oL hoL => ?_)
  refine aw_loop (fun mm R' H2 => ∃ (i oL kk : Nat), kk = (heldK d i).length ∧ (H.set F.oh (es.ao .i64)) oL = none ∧ H2 = (H.set F.oh (es.ao .i64)).set oL (.cel ((heldK d i).map uI)) ∧ R' = [(0, .ptr F.o 0), (2, .vw oL 1 0 kk), (23, mI (c.n : Int)), (24, .raw (.int .i64 (i : Int)))] ∧ i + mm = c.n) ?_ ?_
  · exact ⟨c.n, _, _, auto_ent, 0, oL, 0, rfl, hoL, rfl, rfl, by omega⟩
  clear hoL oL
  rintro mm R0 H2 ⟨i, oL, kk, rfl, hoL, rfl, rfl, hi⟩
  have hk := heldK_len d i
  have hkl : ((heldK d i).map uI).length = (heldK d i).length * 1 := by rw [List.length_map, Nat.mul_one]
  by_cases hlt : i < c.n
  · have hget := hes.get (i : Int)
    rw [if_pos (by omega), Int.toNat_natCast] at hget
    have hsn := heldK_succ d i
    cases hq : d.held i with
    | none =>
      rw [hq, Option.map_none] at hget
      rw [hq, Option.toList_none, List.append_nil] at hsn
      have v1 : (es.get (i : Int)).getD (.raw (.int .u64 0)) = .raw (.int .u64 0) := by rw [hget]; rfl
      have v2 : (es.get (i : Int)).isSome = false := by rw [hget]; rfl
      (first | focus (refine yy10 ?_; refine aw_condp rfl (fun hc => ?_) (fun hc => ?_); refine yy26 ?_; refine yy2 ?_; refine yy24 ?_; refine yy8 ?_; refine yy2 ?_; refine yy107 ?_; refine yy73 ?_; refine yy30 ?_; refine yy24 ?_; refine yy104 ?_; refine yy76 ?_; refine yy23 ?_; rotate_left; exact absurd hc auto_no) | fail)
      all_goals try (exfalso; omega)
      exact ⟨mm - 1, _, _, by omega, auto_ent, i + 1, oL, _, by rw [hsn], hoL, by rw [hsn], rfl, by omega⟩
    | some v =>
      have hv := hdh i v hq
      rw [hq, Option.map_some] at hget
      rw [hq, Option.toList_some] at hsn
      have v1 : (es.get (i : Int)).getD (.raw (.int .u64 0)) = .raw (.int .u64 (v : Int)) := by rw [hget]; rfl
      have v2 : (es.get (i : Int)).isSome = true := by rw [hget]; rfl
      (first | focus (refine yy10 ?_; refine aw_condp rfl (fun hc => ?_) (fun hc => ?_); refine yy26 ?_; refine yy2 ?_; refine yy24 ?_; refine yy8 ?_; refine yy2 ?_; refine yy107 ?_; refine yy73 ?_; refine yy30 ?_; refine yy24 ?_; refine yy104 ?_; refine yy42 ?_; refine aw_region ?_; refine yy52 ?_; refine yy2 ?_; refine yy92 ?_; refine za2 rfl rfl rfl (by assumption) auto_len auto_src auto_len auto_len (fun oN hoN => ?_); refine yy65 ?_; refine yy7 ?_; refine yy23 ?_; rotate_left; exact absurd hc auto_no) | fail)
      all_goals try (exfalso; omega)
      exact ⟨mm - 1, _, _, by omega, auto_entg, i + 1, oN, _, by rw [hsn, List.length_append]; rfl, hoN, by rw [hsn, List.map_append]; rfl, rfl, by omega⟩
  obtain rfl : i = c.n := by omega
  have hqd : c.quorum = c.n / 2 + 1 := rfl
  have hsl : (Ag.sort (heldK d c.n)).length = (heldK d c.n).length := (Ag.sort_perm _).length_eq
  have hsl2 : ((Ag.sort (heldK d c.n)).map uI).length = (heldK d c.n).length := by rw [List.length_map, hsl]
  have hgk : ¬ (heldK d c.n).length < c.quorum → (Ag.sort (heldK d c.n))[(heldK d c.n).length - c.quorum]? = some ((Ag.sort (heldK d c.n)).getD ((heldK d c.n).length - c.quorum) 0) := fun hn => by
    have hlt2 : (heldK d c.n).length - c.quorum < (Ag.sort (heldK d c.n)).length := by omega
    rw [List.getElem?_eq_getElem hlt2, List.getD_eq_getElem?_getD, List.getElem?_eq_getElem hlt2]; rfl
  have hbk : ∀ k, ¬ (heldK d c.n).length < c.quorum → (Ag.sort (heldK d c.n)).getD ((heldK d c.n).length - c.quorum) 0 = k → (Ag.sort (heldK d c.n))[(heldK d c.n).length - c.quorum]? = some k := fun k hn e => by rw [hgk hn, e]
  have hST := fun H h => Sort_calls H oL (heldK d c.n).length (heldK d c.n) h rfl (by omega)
  generalize (Ag.sort (heldK d c.n)).getD ((heldK d c.n).length - c.quorum) 0 = k at *
  have hbk2 := fun hn => hbk k hn rfl
  clear hgk hbk
  generalize Ag.sort (heldK d c.n) = sl at *
  by_cases hlq : (heldK d c.n).length < c.quorum
  · rw [hset, if_pos hlq]
    (first | focus (refine yy10 ?_; refine yy28 ?_; intro hc; refine yy12 ?_; refine yy52 ?_; refine yy87 ?_; refine yy17 ?_; (refine zc auto_wl (hQ _ auto_heap) ?_; rintro r H' ⟨rfl, rfl⟩); refine yy57 ?_; refine aw_condp rfl (fun hc => ?_) (fun hc => ?_); refine aw_ret ?_; refine yy21 ?_; rotate_left; exact absurd hc auto_no) | fail)
    all_goals try (exfalso; omega)
    exact ⟨.inl rfl, _, _, _, Ent.refl _ _, ret0 rfl, rfl, ⟨⟨off, xs, by rw [hdc, hdw]; exact auto_heap, auto_heap, by rw [hdw]; exact hx1, by rw [hdw]; exact hx2⟩, ⟨eg, auto_heap, hdg⟩, ⟨es, auto_heap, ⟨hes.get, hes.nd⟩⟩⟩, fun p y hp h1 h2 => auto_heap⟩
  have g := hbk2 hlq
  rw [hset, if_neg hlq]
  (first | focus (refine yy10 ?_; refine yy28 ?_; intro hc; refine yy12 ?_; refine yy52 ?_; refine yy87 ?_; refine yy17 ?_; (refine zc auto_wl (hQ _ auto_heap) ?_; rintro r H' ⟨rfl, rfl⟩); refine yy57 ?_; refine yy53 ?_; intro hc; refine yy4 ?_; refine yy52 ?_; (refine zc auto_wl (hST _ auto_heap) ?_; rintro r H' ⟨rfl, rfl⟩); refine yy3 ?_; refine yy82 ?_; (apply awt_s; · exact s_move (v := .ptr _ _) rfl); (apply awt_s; · exact s_move (v := .ptr _ _) rfl); (apply awt_s; · exact s_nilCheck_ptr rfl); (apply awt_s; · exact s_fieldAddr_ptr rfl); (apply awt_s; · exact s_load_cel rfl auto_heap rfl); (apply awt_s; · exact s_move (v := .vw _ _ _ _) rfl); (apply awt_s; · exact s_move (v := .vw _ _ _ _) rfl); (apply awt_s; · exact s_len_vw rfl); (apply awt_s; · exact s_move (v := .ptr _ _) rfl); (apply awt_s; · exact s_callc auto_wl (hQ _ auto_heap)); (apply awt_s; · exact s_subn rfl rfl (by omega) (by omega)); (apply awt_s; · exact s_indexAddr_vw rfl rfl auto_len); (apply awt_s; · exact s_load_cel rfl auto_heap auto_idx); (apply awt_s; · exact s_move (v := .ptr _ _) rfl); (apply awt_s; · exact s_nilCheck_ptr rfl); (apply awt_s; · exact s_fieldAddr_ptr rfl); (apply awt_s; · exact s_load_cel rfl auto_heap rfl); (apply awt_s; · exact s_len_sls rfl); (apply awt_s; · exact s_convn rfl (by omega)); (apply awt_s; · exact s_minn rfl rfl); (apply awt_s; · exact s_convi rfl (by omega) (by omega)); (apply awt_s; · exact s_maxi rfl rfl); (apply awt_s; · exact s_nilCheck_ptr rfl); (apply awt_s; · exact s_fieldAddr_ptr rfl); refine awt_last ?_; refine yy72 ?_; rotate_left) | fail)
  have em : max (c.agreed : Int) ((min k c.list.length : Nat) : Int) = ((max c.agreed (min k c.list.length) : Nat) : Int) := by omega
  rw [em]
  have hc5 : ∀ (og oh : Nat) (wv : AV), coreC ({ d with agreed := max c.agreed (min k c.list.length) } : Ag.Co) og oh wv = (coreC c og oh wv).set 5 (mI ((max c.agreed (min k c.list.length) : Nat) : Int)) := fun og oh wv => by
    rw [hdH.out]; rfl
  exact ⟨.inr rfl, _, _, _, Ent.refl _ _, ret0 rfl, rfl, ⟨⟨off, xs, by rw [hc5]; show _ = some (AO.cel (List.set (coreC c F.og F.oh (.vw F.ow 3 off d.wait.length)) _ _)); rw [hdw]; exact auto_heap, auto_heap, by show off + d.wait.length * 3 = _; rw [hdw]; exact hx1, by show _ = d.wait.flatMap En.cells; rw [hdw]; exact hx2⟩, ⟨eg, auto_heap, ⟨hdg.get, hdg.len⟩⟩, ⟨es, auto_heap, ⟨hes.get, hes.nd⟩⟩⟩, fun p y hp h1 h2 => auto_heap⟩
end Go.Proofs.Ytbciofnejefkiaa

namespace Go.Proofs.Ytbciofnejefkiaa
open Go Go.Am Go.Proofs
set_option linter.unusedSimpArgs false
set_option linter.unusedVariables false
set_option maxRecDepth 20000
set_option maxHeartbeats 4000000

/-! A list is taken. -/
theorem SAt.core {H : AHeap} {F : Ob} {s : Ag.St} (h : SAt H F s) : ∃ off, H F.o = some (.cel (coreC s.c F.og F.oh (.vw F.ow 3 off s.c.wait.length))) ∧
    ∀ c' : Ag.Co, c'.got = s.c.got → c'.n = s.c.n → c'.me = s.c.me → c'.held = s.c.held → c'.wait = s.c.wait →
      SAt (H.set F.o (.cel (coreC c' F.og F.oh (.vw F.ow 3 off s.c.wait.length)))) F { s with c := c' } ∧ Turn F.l H F F (H.set F.o (.cel (coreC c' F.og F.oh (.vw F.ow 3 off s.c.wait.length)))) := by
  obtain ⟨⟨⟨off, xs, hco, hw, hx1, hx2⟩, ⟨eg, hg, hg2⟩, ⟨eh, hh, hh2⟩⟩, hst, hsv, hsn, nd⟩ := h
  refine ⟨off, hco, fun c' e1 e2 e3 e4 e5 => ⟨⟨⟨⟨off, xs, ?_, ?_, ?_, ?_⟩, ⟨eg, ?_, ?_⟩, ⟨eh, ?_, ?_⟩⟩, ?_, ?_, ?_, nd⟩, ⟨rfl, rfl, fun p hp => .inl hp, fun p y hp hF => AHeap.get_skip (fun e => hF (by simp [Ob.l, e])) hp⟩⟩⟩
  · show _ = some (AO.cel (coreC c' F.og F.oh (.vw F.ow 3 off c'.wait.length))); rw [e5]; exact AHeap.set_self _ _ _
  · exact AHeap.get_skip nd.o_ow.symm hw
  · show off + c'.wait.length * 3 = _; rw [e5]; exact hx1
  · show _ = c'.wait.flatMap En.cells; rw [e5]; exact hx2
  · exact AHeap.get_skip nd.o_og.symm hg
  · refine ⟨fun k => by rw [hg2.get k, e1], ?_⟩
    rw [hg2.len]; unfold Ag.Co.size; rw [e1, e2]
  · exact AHeap.get_skip nd.o_oh.symm hh
  · exact ⟨fun k => by rw [hh2.get k]; show _ = if 0 ≤ k then (c'.held k.toNat).map uI else none; rw [e4], hh2.nd⟩
  · exact AHeap.get_skip nd.o_os.symm hst
  · show _ = some (AO.cel (s.save.map fun x => .bys (recB c'.me c'.n x)))
    rw [e2, e3]; exact AHeap.get_skip nd.o_ov.symm hsv
  · exact AHeap.get_skip nd.o_on.symm hsn
theorem flat_drop3 (l : List En) (k : Nat) : (l.flatMap En.cells).drop (k * 3) = (l.drop k).flatMap En.cells := flat_drop (sz := 3) (fun _ => rfl)
theorem LF.drop {l : List En} (h : LF l) (k : Nat) : LF (l.drop k) := ⟨fun e he => h.ok e (List.mem_of_mem_drop he), by have := h.len; rw [List.length_drop]; omega⟩
theorem take_calls (H : AHeap) (F : Ob) (s : Ag.St) (v : Nat) (l : List En) (h : SAt H F s) (hf : CFine s.c) (hl : s.save.length ≤ 10000) (hv : v ≤ Ag.mostView) (hL : LF l) :
    ACalls Try.prog 65 [.ptr F.o 0, .ptr F.os 0, uI v, lsE l] H fun r H' => r = .tup [] ∧ ∃ F', SAt H' F' (s.take v l) ∧ Turn F.l H F F' H' := by
  obtain ⟨off, hco, _⟩ := h.core
  have f3 := hf.list
  have f4 := hL.len
  have f5 := f3.len
  have hv2 : v < 2 ^ 64 := by unfold Ag.mostView at hv; omega
  have hB := fun H => begins_calls H l s.c.list (by omega) (by omega) (fun e he => by have := (hL.ok e he).2; omega) (fun e he => by have := (f3.ok e he).2; omega)
  have hS1 := save_calls H F s 2 v l h hf (by omega) (by decide) hv2 hL
  have hS2 : s.c.list.length < l.length → ACalls Try.prog 78 [.ptr F.o 0, .ptr F.os 0, uI 3, uI 0, .sls (l.length - s.c.list.length) (List.take ((l.length - s.c.list.length) * 3) (List.drop (s.c.list.length * 3) (l.flatMap En.cells)))] H fun r H' => r = .tup [] ∧ ∃ F', SAt H' F' (s.put 3 0 (l.drop s.c.list.length)) ∧ Turn F.l H F F' H' := fun hlt => by
    have h1 := save_calls H F s 3 0 (l.drop s.c.list.length) h hf (by omega) (by decide) (by decide) (hL.drop _)
    have e1 : (l.drop s.c.list.length).length = l.length - s.c.list.length := List.length_drop ..
    unfold lsE at h1
    rw [e1] at h1
    rw [flat_drop3, List.take_of_length_le (by rw [flat_len (sz := 3) (fun _ => rfl), e1]; exact Nat.le_refl _)]
    exact h1
  unfold coreC at hco
  have hbl : Ag.begins l s.c.list = true → s.c.list.length ≤ l.length := fun h => by simp only [Ag.begins, Bool.and_eq_true, decide_eq_true_eq] at h; exact h.1
  refine acalls_of_aw4 Try.func65 rfl (by decide) ?_
  have hid := Turn.refl F.l H F
  by_cases hlv : s.c.last = v
  · cases hbb : Ag.begins l s.c.list with
    | true =>
      have hle := hbl hbb
      rw [hbb] at hB
      by_cases hlt : s.c.list.length < l.length
      · have hS3 := hS2 hlt
        (first | focus (refine yy12 ?_; refine yy8 ?_; refine yy2 ?_; refine yy49 ?_; refine yy2 ?_; refine zg1 rfl rfl rfl (fun hc => ?_) (fun hc => ?_); refine yy31 ?_; refine yy5 ?_; refine yy36 ?_; refine yy81 ?_; refine yy33 ?_; (refine zc auto_wl (hB _) ?_; rintro r H' ⟨rfl, rfl⟩); refine yy48 ?_; refine yy79 ?_; refine yy31 ?_; refine yy8 ?_; refine yy32 ?_; refine awl_s rfl (s_slice_sls rfl auto_bnd auto_bnd auto_len auto_len) ?_; refine awl_s rfl (s_assign (v := .sls _ _) rfl) ?_; refine yy71 ?_; refine yy44 ?_; refine yy27 ?_; refine yy3 ?_; refine aw_condp rfl (fun hc => ?_) (fun hc => ?_); refine yy39 ?_; refine yy17 ?_; refine yy31 ?_; (refine zc auto_wl (hS3) ?_; rintro r H' ⟨rfl, F2, b1, b2⟩); refine yy3 ?_; rotate_left; exact absurd hc auto_no; exact absurd hc auto_no) | fail)
        have ht : s.take v l = { s.put 3 0 (l.drop s.c.list.length) with c := { s.c with last := v, list := l } } := by unfold Ag.St.take; dsimp only; rw [if_pos ⟨hlv, hbb⟩, if_pos hlt]; rfl
        rw [ht]
        obtain ⟨off2, q1, q2⟩ := b1.core
        obtain ⟨a1, a2⟩ := q2 { s.c with last := v, list := l } rfl rfl rfl rfl rfl
        rw [b2.o] at q1 a1 a2
        unfold coreC at q1
        (first | focus (refine yy39 ?_; refine yy17 ?_; refine yy2 ?_; refine yy31 ?_; refine yy60 ?_; refine yy59 ?_; refine yy60 ?_; refine yy67 ?_; refine yy7 ?_; rotate_left) | fail)
        exact ⟨.inr rfl, _, _, _, Ent.refl _ _, ret0 rfl, rfl, F2, a1, b2.trans a2⟩
      · (first | focus (refine yy12 ?_; refine yy8 ?_; refine yy2 ?_; refine yy49 ?_; refine yy2 ?_; refine zg1 rfl rfl rfl (fun hc => ?_) (fun hc => ?_); refine yy31 ?_; refine yy5 ?_; refine yy36 ?_; refine yy81 ?_; refine yy33 ?_; (refine zc auto_wl (hB _) ?_; rintro r H' ⟨rfl, rfl⟩); refine yy48 ?_; refine yy79 ?_; refine yy31 ?_; refine yy8 ?_; refine yy32 ?_; refine awl_s rfl (s_slice_sls rfl auto_bnd auto_bnd auto_len auto_len) ?_; refine awl_s rfl (s_assign (v := .sls _ _) rfl) ?_; refine yy71 ?_; refine yy44 ?_; refine yy27 ?_; refine yy3 ?_; refine yy53 ?_; intro hc; rotate_left; exact absurd hc auto_no) | fail)
        have ht : s.take v l = { s with c := { s.c with last := v, list := l } } := by unfold Ag.St.take; dsimp only; rw [if_pos ⟨hlv, hbb⟩, if_neg hlt]
        rw [ht]
        obtain ⟨off2, q1, q2⟩ := h.core
        obtain ⟨a1, a2⟩ := q2 { s.c with last := v, list := l } rfl rfl rfl rfl rfl
        rw [hid.o] at q1 a1 a2
        unfold coreC at q1
        (first | focus (refine yy39 ?_; refine yy17 ?_; refine yy2 ?_; refine yy31 ?_; refine yy60 ?_; refine yy59 ?_; refine yy60 ?_; refine yy67 ?_; refine yy7 ?_; rotate_left) | fail)
        exact ⟨.inr rfl, _, _, _, Ent.refl _ _, ret0 rfl, rfl, F, a1, hid.trans a2⟩
    | false =>
      rw [hbb] at hB
      (first | focus (refine yy12 ?_; refine yy8 ?_; refine yy2 ?_; refine yy49 ?_; refine yy2 ?_; refine zg1 rfl rfl rfl (fun hc => ?_) (fun hc => ?_); refine yy31 ?_; refine yy5 ?_; refine yy36 ?_; refine yy81 ?_; refine yy33 ?_; (refine zc auto_wl (hB _) ?_; rintro r H' ⟨rfl, rfl⟩); refine yy48 ?_; refine aw_cond_f rfl ?_; refine yy39 ?_; refine yy17 ?_; refine yy2 ?_; refine yy31 ?_; (refine zc auto_wl (hS1) ?_; rintro r H' ⟨rfl, F2, b1, b2⟩); refine yy3 ?_; rotate_left; exact absurd hc auto_no) | fail)
      have ht : s.take v l = { s.put 2 v l with c := { s.c with last := v, list := l } } := by unfold Ag.St.take; dsimp only; rw [if_neg (fun x => by rw [hbb] at x; cases x.2)]; rfl
      rw [ht]
      obtain ⟨off2, q1, q2⟩ := b1.core
      obtain ⟨a1, a2⟩ := q2 { s.c with last := v, list := l } rfl rfl rfl rfl rfl
      rw [b2.o] at q1 a1 a2
      unfold coreC at q1
      (first | focus (refine yy39 ?_; refine yy17 ?_; refine yy2 ?_; refine yy31 ?_; refine yy60 ?_; refine yy59 ?_; refine yy60 ?_; refine yy67 ?_; refine yy7 ?_; rotate_left) | fail)
      exact ⟨.inr rfl, _, _, _, Ent.refl _ _, ret0 rfl, rfl, F2, a1, b2.trans a2⟩
  · (first | focus (refine yy12 ?_; refine yy8 ?_; refine yy2 ?_; refine yy49 ?_; refine yy2 ?_; refine zg1 rfl rfl rfl (fun hc => ?_) (fun hc => ?_); exact absurd hc auto_no; refine yy34 ?_; refine yy41 ?_; refine yy43 ?_; refine aw_cond_f rfl ?_; refine yy39 ?_; refine yy17 ?_; refine yy2 ?_; refine yy31 ?_; (refine zc auto_wl (hS1) ?_; rintro r H' ⟨rfl, F2, b1, b2⟩); refine yy3 ?_; rotate_left) | fail)
    have ht : s.take v l = { s.put 2 v l with c := { s.c with last := v, list := l } } := by unfold Ag.St.take; dsimp only; rw [if_neg (fun x => hlv x.1)]; rfl
    rw [ht]
    obtain ⟨off2, q1, q2⟩ := b1.core
    obtain ⟨a1, a2⟩ := q2 { s.c with last := v, list := l } rfl rfl rfl rfl rfl
    rw [b2.o] at q1 a1 a2
    unfold coreC at q1
    (first | focus (refine yy39 ?_; refine yy17 ?_; refine yy2 ?_; refine yy31 ?_; refine yy60 ?_; refine yy59 ?_; refine yy60 ?_; refine yy67 ?_; refine yy7 ?_; rotate_left) | fail)
    exact ⟨.inr rfl, _, _, _, Ent.refl _ _, ret0 rfl, rfl, F2, a1, b2.trans a2⟩
end Go.Proofs.Ytbciofnejefkiaa

namespace Go.Proofs.Ytbciofnejefkiaa
open Go Go.Am Go.Proofs
set_option linter.unusedSimpArgs false
set_option linter.unusedVariables false
set_option maxRecDepth 20000
set_option maxHeartbeats 4000000

/-! An input is kept for the one that leads. -/
theorem TurnC.refl (H : AHeap) (F : Ob) (nd : NdC F) : TurnC H F F H := ⟨rfl, rfl, rfl, rfl, fun p hp => .inl hp, fun p y hp _ => hp, nd⟩
theorem wanted_calls (H : AHeap) (F : Ob) (c : Ag.Co) (e : En) (h : CAt H F c) (nd : NdC F) (hf : CFine c) (hr : e.row.length ≤ 1000000) :
    ACalls Try.prog 36 [.ptr F.o 0, .agg e.cells] H fun r H' => r = bB (c.wanted e).2 ∧ ∃ F', CAt H' F' (c.wanted e).1 ∧ TurnC H F F' H' := by
  have h0 := h
  have nd0 := nd
  obtain ⟨⟨off, xs, hco, hw, hx1, hx2⟩, ⟨eg, hg, hg2⟩, ⟨eh, hh, hh2⟩⟩ := h
  obtain ⟨n1, n2, n3, n4, n5, n6⟩ := nd
  have f1 := hf.list.len
  have f2 := hf.wait.len
  have hM := fun H => may_calls H e (by omega)
  have hHL := fun H => has_calls H c.list e.id (by omega)
  have hHW := fun H h => has_vw H F.ow off xs c.wait e.id (by omega) h hx1 hx2
  have hC := fun H => Copy_calls H e hr
  unfold coreC at hco
  refine acalls_of_aw2 Try.func36 rfl (by decide) ?_
  cases hm : Ag.may e with
  | false =>
    have hwant : c.wanted e = (c, false) := by unfold Ag.Co.wanted; rw [if_pos (.inl hm)]
    rw [hm] at hM
    (first | focus (refine yy4 ?_; refine zb1 rfl rfl rfl (fun oN hoN => ?_); refine yy6 ?_; refine aw_seq ?_; refine yy16 ?_; (apply awt_s; · exact s_load_agg rfl auto_heap rfl rfl (by first | decide | exact Nat.le_of_ble_eq_true rfl)); (apply awt_s; · exact s_callc auto_wl (hM _)); (apply awt_s; · exact s_notb rfl); (apply awt_s; · exact s_move (v := .raw _) rfl); refine yy15 ?_; refine yy77 ?_; refine zt4 rfl rfl ?_; (apply awt_s; · exact s_pick_t (v := .raw _) rfl rfl); (apply awt_s; · exact s_move (v := .raw _) rfl); refine yy15 ?_; refine yy77 ?_; refine zt4 rfl rfl ?_; (apply awt_s; · exact s_pick_t (v := .raw _) rfl rfl); refine yy13 ?_; refine yy42 ?_; refine yy18 ?_; refine yy21 ?_; rotate_left) | fail)
    exact ⟨.inl rfl, _, _, _, Ent.gc (H0 := H) auto_sub, ret1 rfl rfl, by rw [hwant]; rfl, F, by rw [hwant]; exact h0, TurnC.refl H F nd0⟩
  | true =>
    rw [hm] at hM
    cases hli : Ag.hasId c.list e.id with
    | true =>
      have hwant : c.wanted e = (c, false) := by unfold Ag.Co.wanted; rw [if_pos (.inr (.inl hli))]
      rw [hli] at hHL
      (first | focus (refine yy4 ?_; refine zb1 rfl rfl rfl (fun oN hoN => ?_); refine yy6 ?_; refine aw_seq ?_; refine yy16 ?_; (apply awt_s; · exact s_load_agg rfl auto_heap rfl rfl (by first | decide | exact Nat.le_of_ble_eq_true rfl)); (apply awt_s; · exact s_callc auto_wl (hM _)); (apply awt_s; · exact s_notb rfl); (apply awt_s; · exact s_move (v := .raw _) rfl); refine yy1 ?_; (apply awt_s; · exact s_move (v := .ptr _ _) rfl); refine yy1 ?_; (apply awt_s; · exact s_nilCheck_ptr rfl); refine yy1 ?_; (apply awt_s; · exact s_fieldAddr_ptr rfl); refine yy1 ?_; (apply awt_s; · exact s_load_cel rfl auto_heap rfl); refine yy1 ?_; (apply awt_s; · exact s_fieldAddr_ptr rfl); refine yy1 ?_; (apply awt_s; · exact s_load_cel rfl auto_heap rfl); refine yy1 ?_; (apply awt_s; · exact s_callc auto_wl (hHL _)); (apply awt_s; · exact s_pick_f (v := .raw _) rfl rfl); (apply awt_s; · exact s_move (v := .raw _) rfl); refine yy15 ?_; refine yy77 ?_; refine zt4 rfl rfl ?_; (apply awt_s; · exact s_pick_t (v := .raw _) rfl rfl); refine yy13 ?_; refine yy42 ?_; refine yy18 ?_; refine yy21 ?_; rotate_left) | fail)
      exact ⟨.inl rfl, _, _, _, Ent.gc (H0 := H) auto_sub, ret1 rfl rfl, by rw [hwant]; rfl, F, by rw [hwant]; exact h0, TurnC.refl H F nd0⟩
    | false =>
      rw [hli] at hHL
      cases hwi : Ag.hasId c.wait e.id with
      | true =>
        have hwant : c.wanted e = (c, false) := by unfold Ag.Co.wanted; rw [if_pos (.inr (.inr hwi))]
        rw [hwi] at hHW
        (first | focus (refine yy4 ?_; refine zb1 rfl rfl rfl (fun oN hoN => ?_); refine yy6 ?_; refine aw_seq ?_; refine yy16 ?_; (apply awt_s; · exact s_load_agg rfl auto_heap rfl rfl (by first | decide | exact Nat.le_of_ble_eq_true rfl)); (apply awt_s; · exact s_callc auto_wl (hM _)); (apply awt_s; · exact s_notb rfl); (apply awt_s; · exact s_move (v := .raw _) rfl); refine yy1 ?_; (apply awt_s; · exact s_move (v := .ptr _ _) rfl); refine yy1 ?_; (apply awt_s; · exact s_nilCheck_ptr rfl); refine yy1 ?_; (apply awt_s; · exact s_fieldAddr_ptr rfl); refine yy1 ?_; (apply awt_s; · exact s_load_cel rfl auto_heap rfl); refine yy1 ?_; (apply awt_s; · exact s_fieldAddr_ptr rfl); refine yy1 ?_; (apply awt_s; · exact s_load_cel rfl auto_heap rfl); refine yy1 ?_; (apply awt_s; · exact s_callc auto_wl (hHL _)); (apply awt_s; · exact s_pick_f (v := .raw _) rfl rfl); (apply awt_s; · exact s_move (v := .raw _) rfl); refine yy1 ?_; (apply awt_s; · exact s_move (v := .ptr _ _) rfl); refine yy1 ?_; (apply awt_s; · exact s_nilCheck_ptr rfl); refine yy1 ?_; (apply awt_s; · exact s_fieldAddr_ptr rfl); refine yy1 ?_; (apply awt_s; · exact s_load_cel rfl auto_heap rfl); refine yy1 ?_; (apply awt_s; · exact s_fieldAddr_ptr rfl); refine yy1 ?_; (apply awt_s; · exact s_load_cel rfl auto_heap rfl); refine yy1 ?_; (apply awt_s; · exact s_callc auto_wl (hHW _ auto_heap)); (apply awt_s; · exact s_pick_f (v := .raw _) rfl rfl); refine yy13 ?_; refine yy42 ?_; refine yy18 ?_; refine yy21 ?_; rotate_left) | fail)
        exact ⟨.inl rfl, _, _, _, Ent.gc (H0 := H) auto_sub, ret1 rfl rfl, by rw [hwant]; rfl, F, by rw [hwant]; exact h0, TurnC.refl H F nd0⟩
      | false =>
        rw [hwi] at hHW
        by_cases h200 : c.wait.length = 200
        · have hdr : xs.drop (off + 1 * 3) = (c.wait.drop 1).flatMap En.cells := by
            rw [← List.drop_drop, hx2, flat_drop3]
          have hwant : c.wanted e = ({ c with wait := c.wait.drop 1 ++ [e] }, c.lead) := by unfold Ag.Co.wanted; rw [if_neg (by rw [hm, hli, hwi]; simp)]; simp [h200]
          have hlen : (c.wait.drop 1 ++ [e]).length = c.wait.length - 1 + 1 := by rw [List.length_append]; rw [List.length_drop]; rfl
          have hcw : (c.wait.drop 1 ++ [e]).flatMap En.cells = xs.drop (off + 1 * 3) ++ e.cells := by rw [List.flatMap_append, ← hdr]; simp
          rw [hwant]
          (first | focus (refine yy4 ?_; refine zb1 rfl rfl rfl (fun oN hoN => ?_); refine yy6 ?_; refine aw_seq ?_; refine yy16 ?_; (apply awt_s; · exact s_load_agg rfl auto_heap rfl rfl (by first | decide | exact Nat.le_of_ble_eq_true rfl)); (apply awt_s; · exact s_callc auto_wl (hM _)); (apply awt_s; · exact s_notb rfl); (apply awt_s; · exact s_move (v := .raw _) rfl); refine yy1 ?_; (apply awt_s; · exact s_move (v := .ptr _ _) rfl); refine yy1 ?_; (apply awt_s; · exact s_nilCheck_ptr rfl); refine yy1 ?_; (apply awt_s; · exact s_fieldAddr_ptr rfl); refine yy1 ?_; (apply awt_s; · exact s_load_cel rfl auto_heap rfl); refine yy1 ?_; (apply awt_s; · exact s_fieldAddr_ptr rfl); refine yy1 ?_; (apply awt_s; · exact s_load_cel rfl auto_heap rfl); refine yy1 ?_; (apply awt_s; · exact s_callc auto_wl (hHL _)); (apply awt_s; · exact s_pick_f (v := .raw _) rfl rfl); (apply awt_s; · exact s_move (v := .raw _) rfl); refine yy1 ?_; (apply awt_s; · exact s_move (v := .ptr _ _) rfl); refine yy1 ?_; (apply awt_s; · exact s_nilCheck_ptr rfl); refine yy1 ?_; (apply awt_s; · exact s_fieldAddr_ptr rfl); refine yy1 ?_; (apply awt_s; · exact s_load_cel rfl auto_heap rfl); refine yy1 ?_; (apply awt_s; · exact s_fieldAddr_ptr rfl); refine yy1 ?_; (apply awt_s; · exact s_load_cel rfl auto_heap rfl); refine yy1 ?_; (apply awt_s; · exact s_callc auto_wl (hHW _ auto_heap)); (apply awt_s; · exact s_pick_f (v := .raw _) rfl rfl); refine yy13 ?_; refine yy68 ?_; refine yy12 ?_; refine yy8 ?_; refine yy87 ?_; refine yy49 ?_; refine yy3 ?_; refine aw_condp rfl (fun hc => ?_) (fun hc => ?_); refine yy39 ?_; refine yy8 ?_; refine awl_s rfl (s_slice_vw rfl auto_bnd auto_bnd auto_len auto_len) ?_; refine yy60 ?_; refine yy59 ?_; refine yy3 ?_; refine aw_seq ?_; refine aw_draw2 false auto_kr auto_dk auto_dk ?_; (apply awm_s; · (intro H1; exact s_move (v := .ptr _ _) rfl)); (apply awm_s; · (intro H1; exact s_move (v := .ptr _ _) rfl)); (apply awm_s; · (intro H1; exact s_nilCheck_ptr rfl)); (apply awm_s; · (intro H1; exact s_fieldAddr_ptr rfl)); (apply awm_e auto_dk; (· exact s_load_cel rfl auto_heap rfl)); (apply awm_e auto_dk; (· exact s_load_agg rfl auto_heap rfl rfl (by first | decide | exact Nat.le_of_ble_eq_true rfl))); (apply awm_s; · (intro H1; exact s_callc auto_wl (hC _))); (apply awm_s; · (intro H1; exact s_buildSlicev (by ((repeat' (first | exact eqL_nil | apply eqL_cons)); all_goals (first | exact (rfl : _ = AV.raw _) | exact (rfl : _ = AV.bys _) | exact (rfl : _ = AV.vw _ _ _ _) | exact (rfl : _ = AV.ptr _ _) | exact (rfl : _ = AV.str _) | exact (rfl : _ = AV.sls _ _) | exact (rfl : _ = AV.tup _) | exact (rfl : _ = AV.agg _) | exact (rfl : _ = AV.pce _ _) | exact (rfl : _ = AV.emp) | exact (rfl : _ = AV.bysx _) | exact (rfl : _ = AV.slsx _ _) | exact (rfl : _ = AV.mp _) | exact (rfl : _ = AV.fnc _ _ _) | exact (rfl : _ = AV.pby _ _) | exact (rfl : _ = AV.ifc _ _)))) (by rfl) (by rfl) (by rfl) (by ((repeat' (first | exact eqL_nil | apply eqL_cons)); all_goals (first | exact (rfl : _ = AV.raw _) | exact (rfl : _ = AV.bys _) | exact (rfl : _ = AV.vw _ _ _ _) | exact (rfl : _ = AV.ptr _ _) | exact (rfl : _ = AV.str _) | exact (rfl : _ = AV.sls _ _) | exact (rfl : _ = AV.tup _) | exact (rfl : _ = AV.agg _) | exact (rfl : _ = AV.pce _ _) | exact (rfl : _ = AV.emp) | exact (rfl : _ = AV.bysx _) | exact (rfl : _ = AV.slsx _ _) | exact (rfl : _ = AV.mp _) | exact (rfl : _ = AV.fnc _ _ _) | exact (rfl : _ = AV.pby _ _) | exact (rfl : _ = AV.ifc _ _)))) (by decide))); refine awm_b ?_; (apply awm_s; · (intro H1; exact s_nilCheck_ptr rfl)); (apply awm_s; · (intro H1; exact s_fieldAddr_ptr rfl)); refine awm_b0 ?_; refine awm_nil ?_; refine awb_cons (fun Rx K1 hK1x => ?_); refine awl_app_celo rfl rfl rfl auto_heap auto_len auto_src auto_len auto_len (fun oN hoN => ?_); refine yy7 ?_; (refine hK1x _ _ ?_; clear hK1x K1 Rx); refine awb_cons0 (fun Rx K1 hK1x => ?_); refine yy72 ?_; (refine hK1x _ ?_; clear hK1x K1 Rx); refine awb_nil ?_; refine yy47 ?_; refine yy4 ?_; refine yy8 ?_; refine yy9 ?_; rotate_left; exact absurd hc auto_no) | fail)
          all_goals try (exfalso; omega)
          refine ⟨.inl rfl, _, _, _, Ent.refl _ _, ret1 rfl rfl, rfl, { F with ow := oN }, ⟨⟨0, _, ?_, AHeap.get_skip (by (first | assumption | exact Ne.symm (by assumption) | exact AHeap.ne_of_fresh (by assumption) | exact Ne.symm (AHeap.ne_of_fresh (by assumption)) | exact AHeap.ne_of_fresh (AHeap.none_of_set (by assumption)) | exact Ne.symm (AHeap.ne_of_fresh (AHeap.none_of_set (by assumption))) | exact AHeap.ne_ns (by assumption) (by assumption) | exact AHeap.ne_sn (by assumption) (by assumption) | exact AHeap.ne_ns (by assumption) auto_heap2 | exact AHeap.ne_sn (by assumption) auto_heap2)) (AHeap.set_self _ _ _), ?_, ?_⟩, ⟨eg, auto_heap, ⟨hg2.get, hg2.len⟩⟩, ⟨eh, auto_heap, ⟨hh2.get, hh2.nd⟩⟩⟩, ⟨rfl, rfl, rfl, rfl, fun p hp => ?_, fun p y hp hF => ?_, ?_⟩⟩
          · show _ = some (AO.cel (coreC c F.og F.oh (.vw oN 3 0 (c.wait.drop 1 ++ [e]).length)))
            rw [hlen]; exact auto_heap
          · show 0 + (c.wait.drop 1 ++ [e]).length * 3 = _
            rw [hlen, List.length_append, List.length_drop]; simp only [List.length_cons, List.length_nil]; omega
          · rw [List.drop_zero]; exact hcw.symm
          · simp only [Ob.c, List.mem_cons, List.not_mem_nil, or_false] at hp ⊢
            rcases hp with h | h | h | h
            · exact .inl (.inl h)
            · exact .inl (.inr (.inl h))
            · exact .inl (.inr (.inr (.inl h)))
            · exact .inr (by rw [h]; (first | assumption | exact AHeap.none_of_set ((by assumption)) | exact AHeap.none_of_set (AHeap.none_of_set ((by assumption))) | exact AHeap.none_of_set (AHeap.none_of_set (AHeap.none_of_set ((by assumption)))) | exact AHeap.none_of_set (AHeap.none_of_set (AHeap.none_of_set (AHeap.none_of_set ((by assumption))))) | exact AHeap.none_of_set (AHeap.none_of_set (AHeap.none_of_set (AHeap.none_of_set (AHeap.none_of_set ((by assumption)))))) | exact AHeap.none_of_set (AHeap.none_of_set (AHeap.none_of_set (AHeap.none_of_set (AHeap.none_of_set (AHeap.none_of_set ((by assumption))))))) | exact AHeap.none_of_set (AHeap.none_of_set (AHeap.none_of_set (AHeap.none_of_set (AHeap.none_of_set (AHeap.none_of_set (AHeap.none_of_set ((by assumption)))))))) | exact AHeap.none_of_set (AHeap.none_of_set (AHeap.none_of_set (AHeap.none_of_set (AHeap.none_of_set (AHeap.none_of_set (AHeap.none_of_set (AHeap.none_of_set ((by assumption))))))))) | exact AHeap.none_of_set (AHeap.none_of_set (AHeap.none_of_set (AHeap.none_of_set (AHeap.none_of_set (AHeap.none_of_set (AHeap.none_of_set (AHeap.none_of_set (AHeap.none_of_set ((by assumption)))))))))) | exact AHeap.none_of_set (AHeap.none_of_set (AHeap.none_of_set (AHeap.none_of_set (AHeap.none_of_set (AHeap.none_of_set (AHeap.none_of_set (AHeap.none_of_set (AHeap.none_of_set (AHeap.none_of_set ((by assumption)))))))))))))
          · simp only [Ob.c, List.mem_cons, List.not_mem_nil, or_false, not_or] at hF
            obtain ⟨k1, k2, k3, k4⟩ := hF
            exact auto_heap
          · constructor <;> (first | assumption | exact Ne.symm (by assumption) | exact AHeap.ne_of_fresh (by assumption) | exact Ne.symm (AHeap.ne_of_fresh (by assumption)) | exact AHeap.ne_of_fresh (AHeap.none_of_set (by assumption)) | exact Ne.symm (AHeap.ne_of_fresh (AHeap.none_of_set (by assumption))) | exact AHeap.ne_ns (by assumption) (by assumption) | exact AHeap.ne_sn (by assumption) (by assumption) | exact AHeap.ne_ns (by assumption) auto_heap2 | exact AHeap.ne_sn (by assumption) auto_heap2)
        · have hwant : c.wanted e = ({ c with wait := c.wait ++ [e] }, c.lead) := by unfold Ag.Co.wanted; rw [if_neg (by rw [hm, hli, hwi]; simp)]; simp [h200]
          have hlen : (c.wait ++ [e]).length = c.wait.length + 1 := by rw [List.length_append]; rfl
          have hcw : (c.wait ++ [e]).flatMap En.cells = xs.drop (off) ++ e.cells := by rw [List.flatMap_append, ← hx2]; simp
          rw [hwant]
          (first | focus (refine yy4 ?_; refine zb1 rfl rfl rfl (fun oN hoN => ?_); refine yy6 ?_; refine aw_seq ?_; refine yy16 ?_; (apply awt_s; · exact s_load_agg rfl auto_heap rfl rfl (by first | decide | exact Nat.le_of_ble_eq_true rfl)); (apply awt_s; · exact s_callc auto_wl (hM _)); (apply awt_s; · exact s_notb rfl); (apply awt_s; · exact s_move (v := .raw _) rfl); refine yy1 ?_; (apply awt_s; · exact s_move (v := .ptr _ _) rfl); refine yy1 ?_; (apply awt_s; · exact s_nilCheck_ptr rfl); refine yy1 ?_; (apply awt_s; · exact s_fieldAddr_ptr rfl); refine yy1 ?_; (apply awt_s; · exact s_load_cel rfl auto_heap rfl); refine yy1 ?_; (apply awt_s; · exact s_fieldAddr_ptr rfl); refine yy1 ?_; (apply awt_s; · exact s_load_cel rfl auto_heap rfl); refine yy1 ?_; (apply awt_s; · exact s_callc auto_wl (hHL _)); (apply awt_s; · exact s_pick_f (v := .raw _) rfl rfl); (apply awt_s; · exact s_move (v := .raw _) rfl); refine yy1 ?_; (apply awt_s; · exact s_move (v := .ptr _ _) rfl); refine yy1 ?_; (apply awt_s; · exact s_nilCheck_ptr rfl); refine yy1 ?_; (apply awt_s; · exact s_fieldAddr_ptr rfl); refine yy1 ?_; (apply awt_s; · exact s_load_cel rfl auto_heap rfl); refine yy1 ?_; (apply awt_s; · exact s_fieldAddr_ptr rfl); refine yy1 ?_; (apply awt_s; · exact s_load_cel rfl auto_heap rfl); refine yy1 ?_; (apply awt_s; · exact s_callc auto_wl (hHW _ auto_heap)); (apply awt_s; · exact s_pick_f (v := .raw _) rfl rfl); refine yy13 ?_; refine yy68 ?_; refine yy12 ?_; refine yy8 ?_; refine yy87 ?_; refine yy49 ?_; refine yy3 ?_; refine yy85 ?_; intro hc; refine yy83 ?_; refine aw_draw2 false auto_kr auto_dk auto_dk ?_; (apply awm_s; · (intro H1; exact s_move (v := .ptr _ _) rfl)); (apply awm_s; · (intro H1; exact s_move (v := .ptr _ _) rfl)); (apply awm_s; · (intro H1; exact s_nilCheck_ptr rfl)); (apply awm_s; · (intro H1; exact s_fieldAddr_ptr rfl)); (apply awm_e auto_dk; (· exact s_load_cel rfl auto_heap rfl)); (apply awm_e auto_dk; (· exact s_load_agg rfl auto_heap rfl rfl (by first | decide | exact Nat.le_of_ble_eq_true rfl))); (apply awm_s; · (intro H1; exact s_callc auto_wl (hC _))); (apply awm_s; · (intro H1; exact s_buildSlicev (by ((repeat' (first | exact eqL_nil | apply eqL_cons)); all_goals (first | exact (rfl : _ = AV.raw _) | exact (rfl : _ = AV.bys _) | exact (rfl : _ = AV.vw _ _ _ _) | exact (rfl : _ = AV.ptr _ _) | exact (rfl : _ = AV.str _) | exact (rfl : _ = AV.sls _ _) | exact (rfl : _ = AV.tup _) | exact (rfl : _ = AV.agg _) | exact (rfl : _ = AV.pce _ _) | exact (rfl : _ = AV.emp) | exact (rfl : _ = AV.bysx _) | exact (rfl : _ = AV.slsx _ _) | exact (rfl : _ = AV.mp _) | exact (rfl : _ = AV.fnc _ _ _) | exact (rfl : _ = AV.pby _ _) | exact (rfl : _ = AV.ifc _ _)))) (by rfl) (by rfl) (by rfl) (by ((repeat' (first | exact eqL_nil | apply eqL_cons)); all_goals (first | exact (rfl : _ = AV.raw _) | exact (rfl : _ = AV.bys _) | exact (rfl : _ = AV.vw _ _ _ _) | exact (rfl : _ = AV.ptr _ _) | exact (rfl : _ = AV.str _) | exact (rfl : _ = AV.sls _ _) | exact (rfl : _ = AV.tup _) | exact (rfl : _ = AV.agg _) | exact (rfl : _ = AV.pce _ _) | exact (rfl : _ = AV.emp) | exact (rfl : _ = AV.bysx _) | exact (rfl : _ = AV.slsx _ _) | exact (rfl : _ = AV.mp _) | exact (rfl : _ = AV.fnc _ _ _) | exact (rfl : _ = AV.pby _ _) | exact (rfl : _ = AV.ifc _ _)))) (by decide))); refine awm_b ?_; (apply awm_s; · (intro H1; exact s_nilCheck_ptr rfl)); (apply awm_s; · (intro H1; exact s_fieldAddr_ptr rfl)); refine awm_b0 ?_; refine awm_nil ?_; refine awb_cons (fun Rx K1 hK1x => ?_); refine awl_app_celo rfl rfl rfl auto_heap auto_len auto_src auto_len auto_len (fun oN hoN => ?_); refine yy7 ?_; (refine hK1x _ _ ?_; clear hK1x K1 Rx); refine awb_cons0 (fun Rx K1 hK1x => ?_); refine yy72 ?_; (refine hK1x _ ?_; clear hK1x K1 Rx); refine awb_nil ?_; refine yy47 ?_; refine yy4 ?_; refine yy8 ?_; refine yy9 ?_; rotate_left) | fail)
          all_goals try (exfalso; omega)
          refine ⟨.inl rfl, _, _, _, Ent.refl _ _, ret1 rfl rfl, rfl, { F with ow := oN }, ⟨⟨0, _, ?_, AHeap.get_skip (by (first | assumption | exact Ne.symm (by assumption) | exact AHeap.ne_of_fresh (by assumption) | exact Ne.symm (AHeap.ne_of_fresh (by assumption)) | exact AHeap.ne_of_fresh (AHeap.none_of_set (by assumption)) | exact Ne.symm (AHeap.ne_of_fresh (AHeap.none_of_set (by assumption))) | exact AHeap.ne_ns (by assumption) (by assumption) | exact AHeap.ne_sn (by assumption) (by assumption) | exact AHeap.ne_ns (by assumption) auto_heap2 | exact AHeap.ne_sn (by assumption) auto_heap2)) (AHeap.set_self _ _ _), ?_, ?_⟩, ⟨eg, auto_heap, ⟨hg2.get, hg2.len⟩⟩, ⟨eh, auto_heap, ⟨hh2.get, hh2.nd⟩⟩⟩, ⟨rfl, rfl, rfl, rfl, fun p hp => ?_, fun p y hp hF => ?_, ?_⟩⟩
          · show _ = some (AO.cel (coreC c F.og F.oh (.vw oN 3 0 (c.wait ++ [e]).length)))
            rw [hlen]; exact auto_heap
          · show 0 + (c.wait ++ [e]).length * 3 = _
            rw [hlen, List.length_append, List.length_drop]; simp only [List.length_cons, List.length_nil]; omega
          · rw [List.drop_zero]; exact hcw.symm
          · simp only [Ob.c, List.mem_cons, List.not_mem_nil, or_false] at hp ⊢
            rcases hp with h | h | h | h
            · exact .inl (.inl h)
            · exact .inl (.inr (.inl h))
            · exact .inl (.inr (.inr (.inl h)))
            · exact .inr (by rw [h]; (first | assumption | exact AHeap.none_of_set ((by assumption)) | exact AHeap.none_of_set (AHeap.none_of_set ((by assumption))) | exact AHeap.none_of_set (AHeap.none_of_set (AHeap.none_of_set ((by assumption)))) | exact AHeap.none_of_set (AHeap.none_of_set (AHeap.none_of_set (AHeap.none_of_set ((by assumption))))) | exact AHeap.none_of_set (AHeap.none_of_set (AHeap.none_of_set (AHeap.none_of_set (AHeap.none_of_set ((by assumption)))))) | exact AHeap.none_of_set (AHeap.none_of_set (AHeap.none_of_set (AHeap.none_of_set (AHeap.none_of_set (AHeap.none_of_set ((by assumption))))))) | exact AHeap.none_of_set (AHeap.none_of_set (AHeap.none_of_set (AHeap.none_of_set (AHeap.none_of_set (AHeap.none_of_set (AHeap.none_of_set ((by assumption)))))))) | exact AHeap.none_of_set (AHeap.none_of_set (AHeap.none_of_set (AHeap.none_of_set (AHeap.none_of_set (AHeap.none_of_set (AHeap.none_of_set (AHeap.none_of_set ((by assumption))))))))) | exact AHeap.none_of_set (AHeap.none_of_set (AHeap.none_of_set (AHeap.none_of_set (AHeap.none_of_set (AHeap.none_of_set (AHeap.none_of_set (AHeap.none_of_set (AHeap.none_of_set ((by assumption)))))))))) | exact AHeap.none_of_set (AHeap.none_of_set (AHeap.none_of_set (AHeap.none_of_set (AHeap.none_of_set (AHeap.none_of_set (AHeap.none_of_set (AHeap.none_of_set (AHeap.none_of_set (AHeap.none_of_set ((by assumption)))))))))))))
          · simp only [Ob.c, List.mem_cons, List.not_mem_nil, or_false, not_or] at hF
            obtain ⟨k1, k2, k3, k4⟩ := hF
            exact auto_heap
          · constructor <;> (first | assumption | exact Ne.symm (by assumption) | exact AHeap.ne_of_fresh (by assumption) | exact Ne.symm (AHeap.ne_of_fresh (by assumption)) | exact AHeap.ne_of_fresh (AHeap.none_of_set (by assumption)) | exact Ne.symm (AHeap.ne_of_fresh (AHeap.none_of_set (by assumption))) | exact AHeap.ne_ns (by assumption) (by assumption) | exact AHeap.ne_sn (by assumption) (by assumption) | exact AHeap.ne_ns (by assumption) auto_heap2 | exact AHeap.ne_sn (by assumption) auto_heap2)
end Go.Proofs.Ytbciofnejefkiaa

namespace Go.Proofs.Ytbciofnejefkiaa
open Go Go.Am Go.Proofs
set_option linter.unusedSimpArgs false
set_option linter.unusedVariables false
set_option maxRecDepth 20000
set_option maxHeartbeats 4000000

/-! The one that leads puts what is wanted into its list. -/
theorem Clip_calls (H : AHeap) (l : List En) (hl : l.length ≤ 1000000) : ACalls Try.prog 64 [lsE l] H fun r H' => r = .slsx l.length (l.flatMap En.cells) ∧ H' = H := by
  refine acalls_of_aw1 Try.func64 rfl (by decide) ?_
  (first | focus (refine yy46 ?_; refine yy31 ?_; refine yy44 ?_; refine yy44 ?_; refine awl_s rfl (s_clip_sls rfl rfl rfl) ?_; refine awl_s rfl (s_assign (v := .slsx _ _) rfl) ?_; refine yy25 ?_; rotate_left) | fail)
  exact ⟨.inl rfl, _, _, _, Ent.refl _ _, ret1 rfl rfl, rfl, rfl⟩
theorem grown_succ {l w : List En} {i : Nat} {e : En} (h : w[i]? = some e) : Ag.grown l (w.take (i + 1)) = if (Ag.grown l (w.take i)).length < 200 ∧ Ag.hasId (Ag.grown l (w.take i)) e.id = false then Ag.grown l (w.take i) ++ [e] else Ag.grown l (w.take i) := by
  rw [List.take_add_one, h]
  unfold Ag.grown
  rw [List.foldl_append]; rfl
theorem grown_LF {l : List En} (hl : LF l) : ∀ {w : List En}, (∀ e ∈ w, e.Ok ∧ e.row.length ≤ 16) → LF (Ag.grown l w) ∧ l.length ≤ (Ag.grown l w).length := by
  intro w
  induction w generalizing l with
  | nil => intro _; exact ⟨hl, Nat.le_refl _⟩
  | cons e w ih =>
    intro hw
    have hw' : ∀ x ∈ w, x.Ok ∧ x.row.length ≤ 16 := fun x hx => hw x (List.mem_cons_of_mem _ hx)
    unfold Ag.grown
    simp only [List.foldl_cons]
    split
    · next hc =>
      have h1 : LF (l ++ [e]) := ⟨fun x hx => by
        rcases List.mem_append.1 hx with hx | hx
        · exact hl.ok x hx
        · rw [List.mem_singleton.1 hx]; exact hw e (List.mem_cons_self), by rw [List.length_append, List.length_singleton]; omega⟩
      obtain ⟨h2, h3⟩ := ih h1 hw'
      exact ⟨h2, by rw [List.length_append] at h3; exact Nat.le_trans (Nat.le_add_right _ _) h3⟩
    · exact ih hl hw'
theorem Nd.c {F : Ob} (n : Nd F) : NdC F := ⟨n.o_og, n.o_oh, n.o_ow, n.og_oh, n.og_ow, n.oh_ow⟩
theorem settle_same2 (c : Ag.Co) : c.settle.me = c.me ∧ c.settle.n = c.n := by
  unfold Ag.Co.settle; dsimp only
  split <;> exact ⟨rfl, rfl⟩
theorem settle_S (H : AHeap) (F : Ob) (s : Ag.St) (h : SAt H F s) (hf : CFine s.c) :
    ACalls Try.prog 54 [.ptr F.o 0] H fun r H' => r = .tup [] ∧ SAt H' F { s with c := s.c.settle } ∧ Turn F.l H F F H' :=
  (settle_calls H F s.c h.c h.nd.c hf).mono fun r H' ⟨h1, h2, h3⟩ => by
    have t : TurnC H F F H' := ⟨rfl, rfl, rfl, rfl, fun p hp => .inl hp, fun p y hp hF => h3 p y hp (fun e => hF (by simp [Ob.c, e])) (fun e => hF (by simp [Ob.c, e])), h.nd.c⟩
    obtain ⟨a, b⟩ := h.turn h2 t (settle_same2 s.c).1 (settle_same2 s.c).2
    exact ⟨h1, a, b⟩
theorem CFine.settle {c : Ag.Co} (h : CFine c) : CFine c.settle := by
  have h200 := h.list.len
  have hh : ∀ q v, Ag.upd c.held c.me (some c.list.length) q = some v → q < c.n ∧ v < 2 ^ 64 := by
    intro q v hq
    unfold Ag.upd at hq
    split at hq
    · next e => cases hq; exact ⟨by rw [e]; exact h.me, by omega⟩
    · exact h.held q v hq
  unfold Ag.Co.settle; dsimp only
  split
  · exact ⟨h.me, h.n, h.view, h.last, h.list, h.agr, h.wait, h.quiet, h.got, hh⟩
  · refine ⟨h.me, h.n, h.view, h.last, h.list, ?_, h.wait, h.quiet, h.got, hh⟩
    have := h.agr
    show max c.agreed (min _ c.list.length) ≤ c.list.length
    omega
theorem CFine.take {c : Ag.Co} (h : CFine c) {v : Nat} (hv : v ≤ Ag.mostView) {l : List En} (hl : LF l) (ha : c.agreed ≤ l.length) : CFine { c with last := v, list := l } :=
  ⟨h.me, h.n, h.view, hv, hl, ha, h.wait, h.quiet, h.got, h.held⟩
theorem SAt.unwait {H : AHeap} {F : Ob} {s : Ag.St} (h : SAt H F s) {ow : Nat} (how : H ow = none) : SAt ((H.set F.o (.cel (coreC s.c F.og F.oh (.vw ow 3 0 0)))).set ow (.cel [])) { F with ow := ow } { s with c := { s.c with wait := [] } } ∧
    Turn F.l H F { F with ow := ow } ((H.set F.o (.cel (coreC s.c F.og F.oh (.vw ow 3 0 0)))).set ow (.cel [])) := by
  have h0 := h
  obtain ⟨⟨⟨off, xs, hco, hw, hx1, hx2⟩, ⟨eg, hg, hg2⟩, ⟨eh, hh, hh2⟩⟩, hst, hsv, hsn, nd⟩ := h
  have n0 := nd
  obtain ⟨n1, n2, n3, n4, n5, n6, n7, n8, n9, n10, n11, n12, n13, n14, n15, n16, n17, n18, n19, n20, n21⟩ := nd
  have m1 : ow ≠ F.o := by (first | assumption | exact Ne.symm (by assumption) | exact AHeap.ne_of_fresh (by assumption) | exact Ne.symm (AHeap.ne_of_fresh (by assumption)) | exact AHeap.ne_of_fresh (AHeap.none_of_set (by assumption)) | exact Ne.symm (AHeap.ne_of_fresh (AHeap.none_of_set (by assumption))) | exact AHeap.ne_ns (by assumption) (by assumption) | exact AHeap.ne_sn (by assumption) (by assumption) | exact AHeap.ne_ns (by assumption) auto_heap2 | exact AHeap.ne_sn (by assumption) auto_heap2)
  refine ⟨⟨⟨⟨0, [], ?_, ?_, rfl, rfl⟩, ⟨eg, ?_, ⟨hg2.get, hg2.len⟩⟩, ⟨eh, ?_, ⟨hh2.get, hh2.nd⟩⟩⟩, ?_, ?_, ?_, ?_⟩, ⟨rfl, rfl, fun p hp => ?_, fun p y hp hF => ?_⟩⟩
  · exact auto_heap
  · exact auto_heap
  · exact auto_heap
  · exact auto_heap
  · exact auto_heap
  · exact auto_heap
  · exact auto_heap
  · constructor <;> (first | assumption | exact Ne.symm (by assumption) | exact AHeap.ne_of_fresh (by assumption) | exact Ne.symm (AHeap.ne_of_fresh (by assumption)) | exact AHeap.ne_of_fresh (AHeap.none_of_set (by assumption)) | exact Ne.symm (AHeap.ne_of_fresh (AHeap.none_of_set (by assumption))) | exact AHeap.ne_ns (by assumption) (by assumption) | exact AHeap.ne_sn (by assumption) (by assumption) | exact AHeap.ne_ns (by assumption) auto_heap2 | exact AHeap.ne_sn (by assumption) auto_heap2)
  · simp only [Ob.l, List.mem_cons, List.not_mem_nil, or_false] at hp ⊢
    rcases hp with e | e | e | e | e | e | e
    · exact .inl (.inl e)
    · exact .inl (.inr (.inl e))
    · exact .inl (.inr (.inr (.inl e)))
    · exact .inr (by rw [e]; exact how)
    · exact .inl (.inr (.inr (.inr (.inr (.inl e)))))
    · exact .inl (.inr (.inr (.inr (.inr (.inr (.inl e))))))
    · exact .inl (.inr (.inr (.inr (.inr (.inr (.inr e))))))
  · (obtain ⟨f1, f2, f3, f4, f5, f6, f7⟩ := Ob.nel hF; exact auto_heap)
theorem grow_calls (H : AHeap) (F : Ob) (s : Ag.St) (h : SAt H F s) (hf : CFine s.c) (hl : s.save.length ≤ 9000) (hl2 : s.send.length ≤ 9000) :
    ACalls Try.prog 37 [.ptr F.o 0, .ptr F.os 0] H fun r H' => r = .tup [] ∧ ∃ F', SAt H' F' s.grow ∧ Turn F.l H F F' H' := by
  have h0 := h
  obtain ⟨⟨⟨off, xs, hco, hw, hx1, hx2⟩, ⟨eg, hg, hg2⟩, ⟨eh, hh, hh2⟩⟩, hst, hsv, hsn, nd⟩ := h
  have f1 := hf.list.len
  have f2 := hf.wait.len
  have f3 := hf.wait.ok
  have f4 := hf.list
  have hCl := fun H => Clip_calls H s.c.list (by omega)
  unfold coreC at hco
  refine acalls_of_aw2 Try.func37 rfl (by decide) ?_
  (first | focus (refine yy4 ?_; refine yy8 ?_; (refine zc auto_wl (hCl _) ?_; rintro r H' ⟨rfl, rfl⟩); refine awl_s rfl (s_assign (v := .slsx _ _) rfl) ?_; refine yy3 ?_; refine yy12 ?_; refine yy8 ?_; refine yy87 ?_; refine yy56 ?_; rotate_left) | fail)
  clear hCl
  generalize hHH : H' = H at *
  clear hHH H'
  refine aw_loop (fun mm R' H2 => ∃ (i : Nat) (lv : AV), ((lv = .slsx s.c.list.length (s.c.list.flatMap En.cells) ∧ Ag.grown s.c.list (s.c.wait.take i) = s.c.list ∧ H2 = H) ∨ (∃ oL, lv = .vw oL 3 0 (Ag.grown s.c.list (s.c.wait.take i)).length ∧ H oL = none ∧ H2 = H.set oL (.cel ((Ag.grown s.c.list (s.c.wait.take i)).flatMap En.cells)))) ∧ R' = [(0, .ptr F.o 0), (1, .ptr F.os 0), (4, lv), (15, .vw F.ow 3 off s.c.wait.length), (16, .raw (.int .i64 (s.c.wait.length : Int))), (17, .raw (.int .i64 (i : Int)))] ∧ i + mm = s.c.wait.length) ?_ ?_
  · exact ⟨s.c.wait.length, _, _, auto_ent, 0, _, .inl ⟨rfl, rfl, rfl⟩, rfl, by omega⟩
  rintro mm R0 H2 ⟨i, lv, hD, rfl, hi⟩
  obtain ⟨g1, g2⟩ := grown_LF f4 (w := s.c.wait.take i) fun e he => f3 e (List.mem_of_mem_take he)
  by_cases hlt : i < s.c.wait.length
  · have hg0 : s.c.wait[i]? = some s.c.wait[i] := List.getElem?_eq_getElem hlt
    have hge : List.take 3 (List.drop (off + i * 3) xs) = (s.c.wait[i]).cells := by rw [← List.drop_drop, hx2]; exact ent_get hg0
    have hgs := grown_succ (l := s.c.list) hg0
    generalize s.c.wait[i] = e at *
    generalize hgr : Ag.grown s.c.list (s.c.wait.take i) = acc at *
    have hal := g1.len
    have hac : (acc.flatMap En.cells).length = acc.length * 3 := flat_len (sz := 3) (fun _ => rfl) _
    rcases hD with ⟨rfl, rfl, rfl⟩ | ⟨oL, rfl, hoL, rfl⟩
    · have hHs := fun H => has_calls H s.c.list e.id (by omega)
      (first | focus (refine yy10 ?_; refine aw_condp rfl (fun hc => ?_) (fun hc => ?_); refine yy26 ?_; refine yy95 ?_; refine awl_s rfl (s_load_agg rfl auto_heap (by assumption) (by rfl) auto_len) ?_; refine awl_alloc rfl rfl rfl (fun oN hoN => ?_); refine yy78 ?_; refine yy71 ?_; refine awl_s rfl (s_move (v := .slsx _ _) rfl) ?_; refine awl_s rfl (s_len_slsx rfl) ?_; refine yy98 ?_; refine yy2 ?_; refine zg1 rfl rfl rfl (fun hc => ?_) (fun hc => ?_); refine awl_s rfl (s_move (v := .slsx _ _) rfl) ?_; refine yy5 ?_; refine yy33 ?_; (refine zc auto_wl (hHs _) ?_; rintro r H' ⟨rfl, rfl⟩); refine yy5 ?_; refine yy37 ?_; refine yy48 ?_; refine aw_cond rfl (fun hc => ?_) (fun hc => ?_); refine aw_region ?_; refine awl_s rfl (s_move (v := .slsx _ _) rfl) ?_; refine yy100 ?_; refine yy92 ?_; refine awl_own_slsx_cel rfl rfl auto_len rfl auto_src auto_len auto_len auto_len (fun oN hoN => ?_); refine yy65 ?_; refine yy7 ?_; refine yy23 ?_; rotate_left; refine aw_skip ?_; refine yy23 ?_; rotate_left; refine yy34 ?_; refine yy43 ?_; refine yy76 ?_; refine yy23 ?_; rotate_left; exact absurd hc auto_no) | fail)
      all_goals try (exfalso; omega)
      · rw [if_pos ⟨by omega, by simpa using hc⟩] at hgs
        exact ⟨mm - 1, [(0, .ptr F.o 0), (1, .ptr F.os 0), (4, .vw oN 3 0 (s.c.list.length + 1)), (15, .vw F.ow 3 off s.c.wait.length), (16, .raw (.int .i64 (s.c.wait.length : Int))), (17, .raw (.int .i64 ((i + 1 : Nat) : Int)))], H2.set oN (.cel (s.c.list.flatMap En.cells ++ e.cells)), by omega, auto_entg, i + 1, _, .inr ⟨oN, by rw [hgs, List.length_append]; rfl, by (first | assumption | exact AHeap.none_of_set ((by assumption)) | exact AHeap.none_of_set (AHeap.none_of_set ((by assumption))) | exact AHeap.none_of_set (AHeap.none_of_set (AHeap.none_of_set ((by assumption)))) | exact AHeap.none_of_set (AHeap.none_of_set (AHeap.none_of_set (AHeap.none_of_set ((by assumption))))) | exact AHeap.none_of_set (AHeap.none_of_set (AHeap.none_of_set (AHeap.none_of_set (AHeap.none_of_set ((by assumption)))))) | exact AHeap.none_of_set (AHeap.none_of_set (AHeap.none_of_set (AHeap.none_of_set (AHeap.none_of_set (AHeap.none_of_set ((by assumption))))))) | exact AHeap.none_of_set (AHeap.none_of_set (AHeap.none_of_set (AHeap.none_of_set (AHeap.none_of_set (AHeap.none_of_set (AHeap.none_of_set ((by assumption)))))))) | exact AHeap.none_of_set (AHeap.none_of_set (AHeap.none_of_set (AHeap.none_of_set (AHeap.none_of_set (AHeap.none_of_set (AHeap.none_of_set (AHeap.none_of_set ((by assumption))))))))) | exact AHeap.none_of_set (AHeap.none_of_set (AHeap.none_of_set (AHeap.none_of_set (AHeap.none_of_set (AHeap.none_of_set (AHeap.none_of_set (AHeap.none_of_set (AHeap.none_of_set ((by assumption)))))))))) | exact AHeap.none_of_set (AHeap.none_of_set (AHeap.none_of_set (AHeap.none_of_set (AHeap.none_of_set (AHeap.none_of_set (AHeap.none_of_set (AHeap.none_of_set (AHeap.none_of_set (AHeap.none_of_set ((by assumption)))))))))))), by rw [hgs, List.flatMap_append]; simp⟩, rfl, by omega⟩
      · rw [if_neg (fun x => by rw [x.2] at hc; cases hc)] at hgs
        exact ⟨mm - 1, [(0, .ptr F.o 0), (1, .ptr F.os 0), (4, .slsx s.c.list.length (s.c.list.flatMap En.cells)), (15, .vw F.ow 3 off s.c.wait.length), (16, .raw (.int .i64 (s.c.wait.length : Int))), (17, .raw (.int .i64 ((i + 1 : Nat) : Int)))], H2, by omega, auto_entg, i + 1, _, .inl ⟨rfl, hgs, rfl⟩, rfl, by omega⟩
      · rw [if_neg (fun x => hc x.1)] at hgs
        exact ⟨mm - 1, [(0, .ptr F.o 0), (1, .ptr F.os 0), (4, .slsx s.c.list.length (s.c.list.flatMap En.cells)), (15, .vw F.ow 3 off s.c.wait.length), (16, .raw (.int .i64 (s.c.wait.length : Int))), (17, .raw (.int .i64 ((i + 1 : Nat) : Int)))], H2, by omega, auto_entg, i + 1, _, .inl ⟨rfl, hgs, rfl⟩, rfl, by omega⟩
    · have hHs := fun H h => has_vw H oL 0 (acc.flatMap En.cells) acc e.id (by omega) h (by omega) rfl
      (first | focus (refine yy10 ?_; refine aw_condp rfl (fun hc => ?_) (fun hc => ?_); refine yy26 ?_; refine yy95 ?_; refine awl_s rfl (s_load_agg rfl auto_heap (by assumption) (by rfl) auto_len) ?_; refine awl_alloc rfl rfl rfl (fun oN hoN => ?_); refine yy78 ?_; refine yy71 ?_; refine yy52 ?_; refine yy87 ?_; refine yy98 ?_; refine yy2 ?_; refine zg1 rfl rfl rfl (fun hc => ?_) (fun hc => ?_); refine yy52 ?_; refine yy5 ?_; refine yy33 ?_; (refine zc auto_wl (hHs _ auto_heap) ?_; rintro r H' ⟨rfl, rfl⟩); refine yy5 ?_; refine yy37 ?_; refine yy48 ?_; refine aw_cond rfl (fun hc => ?_) (fun hc => ?_); refine aw_region ?_; refine yy52 ?_; refine yy100 ?_; refine yy92 ?_; refine za4 rfl rfl rfl auto_heap auto_al auto_src auto_len auto_len (fun oN hoN => ?_); refine yy65 ?_; refine yy7 ?_; refine yy23 ?_; rotate_left; refine aw_skip ?_; refine yy23 ?_; rotate_left; refine yy34 ?_; refine yy43 ?_; refine yy76 ?_; refine yy23 ?_; rotate_left; exact absurd hc auto_no) | fail)
      all_goals try (exfalso; omega)
      · rw [if_pos ⟨by omega, by simpa using hc⟩] at hgs
        exact ⟨mm - 1, [(0, .ptr F.o 0), (1, .ptr F.os 0), (4, .vw oN 3 0 (acc.length + 1)), (15, .vw F.ow 3 off s.c.wait.length), (16, .raw (.int .i64 (s.c.wait.length : Int))), (17, .raw (.int .i64 ((i + 1 : Nat) : Int)))], H.set oN (.cel (acc.flatMap En.cells ++ e.cells)), by omega, auto_entg, i + 1, _, .inr ⟨oN, by rw [hgs, List.length_append]; rfl, by (first | assumption | exact AHeap.none_of_set ((by assumption)) | exact AHeap.none_of_set (AHeap.none_of_set ((by assumption))) | exact AHeap.none_of_set (AHeap.none_of_set (AHeap.none_of_set ((by assumption)))) | exact AHeap.none_of_set (AHeap.none_of_set (AHeap.none_of_set (AHeap.none_of_set ((by assumption))))) | exact AHeap.none_of_set (AHeap.none_of_set (AHeap.none_of_set (AHeap.none_of_set (AHeap.none_of_set ((by assumption)))))) | exact AHeap.none_of_set (AHeap.none_of_set (AHeap.none_of_set (AHeap.none_of_set (AHeap.none_of_set (AHeap.none_of_set ((by assumption))))))) | exact AHeap.none_of_set (AHeap.none_of_set (AHeap.none_of_set (AHeap.none_of_set (AHeap.none_of_set (AHeap.none_of_set (AHeap.none_of_set ((by assumption)))))))) | exact AHeap.none_of_set (AHeap.none_of_set (AHeap.none_of_set (AHeap.none_of_set (AHeap.none_of_set (AHeap.none_of_set (AHeap.none_of_set (AHeap.none_of_set ((by assumption))))))))) | exact AHeap.none_of_set (AHeap.none_of_set (AHeap.none_of_set (AHeap.none_of_set (AHeap.none_of_set (AHeap.none_of_set (AHeap.none_of_set (AHeap.none_of_set (AHeap.none_of_set ((by assumption)))))))))) | exact AHeap.none_of_set (AHeap.none_of_set (AHeap.none_of_set (AHeap.none_of_set (AHeap.none_of_set (AHeap.none_of_set (AHeap.none_of_set (AHeap.none_of_set (AHeap.none_of_set (AHeap.none_of_set ((by assumption)))))))))))), by rw [hgs, List.flatMap_append]; simp⟩, rfl, by omega⟩
      · rw [if_neg (fun x => by rw [x.2] at hc; cases hc)] at hgs
        exact ⟨mm - 1, [(0, .ptr F.o 0), (1, .ptr F.os 0), (4, .vw oL 3 0 acc.length), (15, .vw F.ow 3 off s.c.wait.length), (16, .raw (.int .i64 (s.c.wait.length : Int))), (17, .raw (.int .i64 ((i + 1 : Nat) : Int)))], H.set oL (.cel (acc.flatMap En.cells)), by omega, auto_entg, i + 1, _, .inr ⟨oL, by rw [hgs], hoL, by rw [hgs]⟩, rfl, by omega⟩
      · rw [if_neg (fun x => hc x.1)] at hgs
        exact ⟨mm - 1, [(0, .ptr F.o 0), (1, .ptr F.os 0), (4, .vw oL 3 0 acc.length), (15, .vw F.ow 3 off s.c.wait.length), (16, .raw (.int .i64 (s.c.wait.length : Int))), (17, .raw (.int .i64 ((i + 1 : Nat) : Int)))], H.set oL (.cel (acc.flatMap En.cells)), by omega, auto_entg, i + 1, _, .inr ⟨oL, by rw [hgs], hoL, by rw [hgs]⟩, rfl, by omega⟩
  obtain rfl : i = s.c.wait.length := by omega
  rw [List.take_length] at *
  (first | focus (refine yy10 ?_; refine yy28 ?_; intro hc; rotate_left) | fail)
  all_goals try (exfalso; omega)
  generalize hL : Ag.grown s.c.list s.c.wait = L at *
  refine aw_ent (R' := [(0, .ptr F.o 0), (1, .ptr F.os 0), (4, lsE L)]) (H' := H) ?_ ?_
  · rcases hD with ⟨rfl, rfl, rfl⟩ | ⟨oL, rfl, hoL, rfl⟩
    · exact (Ent.weakReg 4 (y := lsE s.c.list) rfl (W.slsx rfl)).trans (Ent.sub _ (by (repeat' (first | exact RSub.nil _ | apply RSub.cons)); all_goals rfl))
    · exact (Ent.seal_cel1 4 rfl (flat_len (sz := 3) (fun _ => rfl) L) hoL).trans (Ent.sub _ (by (repeat' (first | exact RSub.nil _ | apply RSub.cons)); all_goals rfl))
  clear hD
  (first | focus (refine yy4 ?_; refine yy111 ?_; refine yy59 ?_; refine yy3 ?_; rotate_left) | fail)
  refine aw_own_cell (o := F.o) 10 3 (AHeap.set_self _ _ _) rfl (fun ow how => ?_)
  have how2 : H ow = none := AHeap.none_of_set how
  obtain ⟨a1, a2⟩ := h0.unwait how2
  rw [AHeap.set_set]
  have hf1 : CFine ({ s.c with wait := [] } : Ag.Co) := ⟨hf.me, hf.n, hf.view, hf.last, hf.list, hf.agr, ⟨by simp, by simp⟩, hf.quiet, hf.got, hf.held⟩
  refine aw_ent (R' := [(0, .ptr F.o 0), (1, .ptr F.os 0), (4, lsE L)]) (H' := (H.set F.o (.cel (coreC s.c F.og F.oh (.vw ow 3 0 0)))).set ow (.cel [])) (Ent.sub _ (by (repeat' (first | exact RSub.nil _ | apply RSub.cons)); all_goals rfl)) ?_
  generalize ((H.set F.o (.cel (coreC s.c F.og F.oh (.vw ow 3 0 0)))).set ow (.cel [])) = H1 at *
  have a3 := a2.o
  have a4 := a2.os
  generalize ({ F with ow := ow } : Ob) = F1 at *
  obtain ⟨off1, k1, _⟩ := a1.core
  rw [a3] at k1
  replace k1 : H1 F.o = some (.cel [mI s.c.me, mI s.c.n, uI s.c.view, uI s.c.last, lsE s.c.list, mI s.c.agreed, bB s.c.lead, mI s.c.quiet, .mp F1.og, .mp F1.oh, .vw F1.ow 3 off1 0]) := k1
  clear hco hw hg hh hst hsv hsn hx1 hx2 hg2 hh2 h0 how how2 nd
  by_cases hlt2 : s.c.list.length < L.length
  · have hgrow : s.grow = Ag.St.lay { (Ag.St.take { s with c := { s.c with wait := [] } } s.c.view L) with c := (Ag.St.take { s with c := { s.c with wait := [] } } s.c.view L).c.settle } := by unfold Ag.St.grow; dsimp only; rw [hL, if_pos hlt2]
    have hT := take_calls H1 F1 { s with c := { s.c with wait := [] } } s.c.view L a1 hf1 (by show s.save.length ≤ _; omega) hf.view g1
    rw [a3, a4] at hT
    (first | focus (refine yy12 ?_; refine yy44 ?_; refine yy8 ?_; refine yy32 ?_; refine yy27 ?_; refine yy3 ?_; refine aw_condp rfl (fun hc => ?_) (fun hc => ?_); refine yy39 ?_; refine yy17 ?_; refine yy8 ?_; refine yy31 ?_; (refine zc auto_wl (hT) ?_; rintro r H' ⟨rfl, F2, b1, b2⟩); refine yy3 ?_; rotate_left; exact absurd hc auto_no) | fail)
    have hc2 : (Ag.St.take { s with c := { s.c with wait := [] } } s.c.view L).c = { s.c with wait := [], last := s.c.view, list := L } := Ag.take_c _ _ _
    have hf2 : CFine (Ag.St.take { s with c := { s.c with wait := [] } } s.c.view L).c := by rw [hc2]; exact CFine.take hf1 hf.view g1 (by have := hf.agr; show s.c.agreed ≤ _; omega)
    have hsd : (Ag.St.take { s with c := { s.c with wait := [] } } s.c.view L).send.length ≤ 9000 := by rw [Ag.take_send]; exact hl2
    have b4 := a2.trans b2
    generalize Ag.St.take { s with c := { s.c with wait := [] } } s.c.view L = t at *
    clear hT
    have hS := settle_S _ F2 (t) b1 hf2
    rw [b4.o] at hS
    (first | focus (refine yy22 ?_; (refine zc auto_wl (hS) ?_; rintro r H' ⟨rfl, c1, c2⟩); refine yy3 ?_; rotate_left) | fail)
    have hLy := lay_calls _ F2 _ c1 (CFine.settle hf2) (by show t.send.length ≤ _; omega)
    rw [b4.o, b4.os] at hLy
    have b3 := b4.trans c2
    clear c1 c2 hS
    (first | focus (refine yy39 ?_; refine yy17 ?_; (refine zc auto_wl (hLy) ?_; rintro r H' ⟨rfl, F4, d1, d2⟩); refine yy7 ?_; rotate_left) | fail)
    exact ⟨.inr rfl, _, _, _, Ent.refl _ _, ret0 rfl, rfl, F4, by rw [hgrow]; exact d1, b3.trans d2⟩
  · have hgrow : s.grow = Ag.St.lay { s with c := ({ s.c with wait := [] } : Ag.Co).settle } := by unfold Ag.St.grow; dsimp only; rw [hL, if_neg hlt2]
    (first | focus (refine yy12 ?_; refine yy44 ?_; refine yy8 ?_; refine yy32 ?_; refine yy27 ?_; refine yy3 ?_; refine yy53 ?_; intro hc; rotate_left) | fail)
    have hS := settle_S _ F1 ({ s with c := { s.c with wait := [] } }) a1 hf1
    rw [a2.o] at hS
    (first | focus (refine yy22 ?_; (refine zc auto_wl (hS) ?_; rintro r H' ⟨rfl, c1, c2⟩); refine yy3 ?_; rotate_left) | fail)
    have hLy := lay_calls _ F1 _ c1 (CFine.settle hf1) (by show s.send.length ≤ _; omega)
    rw [a2.o, a2.os] at hLy
    have b3 := a2.trans c2
    clear c1 c2 hS
    (first | focus (refine yy39 ?_; refine yy17 ?_; (refine zc auto_wl (hLy) ?_; rintro r H' ⟨rfl, F4, d1, d2⟩); refine yy7 ?_; rotate_left) | fail)
    exact ⟨.inr rfl, _, _, _, Ent.refl _ _, ret0 rfl, rfl, F4, by rw [hgrow]; exact d1, b3.trans d2⟩
end Go.Proofs.Ytbciofnejefkiaa
