import Derived.Test.YtbciofnejefkiaaIa1
import Derived.Test.YtbciofnejefkiaaIz
set_option linter.unusedVariables false
set_option linter.unusedSimpArgs false
set_option maxRecDepth 20000
set_option maxHeartbeats 4000000
namespace Go.Proofs.Ytbciofnejefkiaa
namespace Ag
def Z (l : List En) : Prop := ∀ e ∈ l, e.view = 0
theorem aoi {a b : En} (ha : a.view = 0) (hb : b.view = 0) (h : sameE a b = true) : a = b := by
  obtain ⟨i, v, r⟩ := a; obtain ⟨j, w, q⟩ := b; simp only [sameE, Bool.and_eq_true, decide_eq_true_eq] at h ha hb; rw [h.1, h.2, ha, hb]
theorem anx (a : En) : sameE a a = true := by simp [sameE]
theorem ahc : ∀ {l k : List En}, Z l -> Z k -> (eqL l k = true ↔ l = k)
  | [], [], _, _ => by simp [eqL]
  | [], b :: k, _, _ => by simp [eqL]
  | a :: l, [], _, _ => by simp [eqL]
  | a :: l, b :: k, h1, h2 => by
    have ih := ahc (l := l) (k := k) (fun e he => h1 e (List.mem_cons_of_mem _ he)) (fun e he => h2 e (List.mem_cons_of_mem _ he))
    simp only [eqL, Bool.and_eq_true, ih, List.cons.injEq]; constructor
    · rintro ⟨x, y⟩; exact ⟨aoi (h1 a (List.mem_cons_self)) (h2 b (List.mem_cons_self)) x, y⟩
    · rintro ⟨rfl, y⟩; exact ⟨anx _, y⟩
theorem Z.take {l : List En} (h : Z l) (k : Nat) : Z (l.take k) := fun e he => h e (List.mem_of_mem_take he)
theorem tr {l w : List En} (hl : Z l) (hw : Z w) : begins l w = true ↔ w <+: l := by
  unfold begins; rw [Bool.and_eq_true, decide_eq_true_eq, ahc (hl.take _) hw, List.prefix_iff_eq_take]; constructor
  · rintro ⟨_, h⟩; exact h.symm
  · intro h; refine ⟨?_, h.symm⟩; rw [h, List.length_take]; omega
def quo (n : Nat) (Q : Nat -> Bool) : Prop := n / 2 + 1 <= (List.range n).countP Q
theorem ajf (P Q : Nat -> Bool) : ∀ l : List Nat, l.countP P + l.countP Q <= l.length + l.countP fun x => P x && Q x
  | [] => by simp
  | x :: l => by
    have ih := ajf P Q l; simp only [List.countP_cons, List.length_cons]
    cases P x <;> cases Q x <;> simp <;> omega
theorem agn {n : Nat} {P Q : Nat -> Bool} (h : quo n P) (k : quo n Q) : ∃ p, p < n /\ P p = true /\ Q p = true := by
  unfold quo at h k; have hb := ajf P Q (List.range n); rw [List.length_range] at hb; have : 0 < (List.range n).countP fun x => P x && Q x := by omega
  obtain ⟨p, hp, hq⟩ := List.countP_pos_iff.1 this; rw [Bool.and_eq_true] at hq; exact ⟨p, List.mem_range.1 hp, hq.1, hq.2⟩
theorem zn {n : Nat} {P : Nat -> Bool} (h : quo n P) : ∃ p, p < n /\ P p = true := let ⟨p, a, b, _⟩ := agn h h; ⟨p, a, b⟩
theorem afr {n : Nat} (h : 0 < n) : quo n fun _ => true := by
  unfold quo; rw [List.countP_true, List.length_range]; omega
structure EOK (S : List (Nat × List Int)) (e : En) : Prop where
  view : e.view = 0
  id : 0 < e.id
  row : e.row.length <= 16
  mem : (e.id, e.row) ∈ S
  ok : e.Ok
structure LOK (S : List (Nat × List Int)) (l : List En) : Prop where
  all : ∀ e ∈ l, EOK S e
  uniq : uniq l = true
  len : l.length <= 200
theorem EOK.mono {S T : List (Nat × List Int)} (h : ∀ x ∈ S, x ∈ T) {e : En} (k : EOK S e) : EOK T e := ⟨k.view, k.id, k.row, h _ k.mem, k.ok⟩
theorem EOK.may {S : List (Nat × List Int)} {e : En} (k : EOK S e) : may e = true := by simp [Ag.may, k.id, k.row]
theorem LOK.z {S : List (Nat × List Int)} {l : List En} (h : LOK S l) : Z l := fun e he => (h.all e he).view
theorem LOK.listed {S : List (Nat × List Int)} {l : List En} (h : LOK S l) : listed l = true := by
  simp only [Ag.listed, Bool.and_eq_true, List.all_eq_true, decide_eq_true_eq]; exact ⟨⟨fun e he => (h.all e he).may, h.uniq⟩, h.len⟩
theorem LOK.mono {S T : List (Nat × List Int)} (h : ∀ x ∈ S, x ∈ T) {l : List En} (k : LOK S l) : LOK T l := ⟨fun e he => (k.all e he).mono h, k.uniq, k.len⟩
theorem LOK.nil {S : List (Nat × List Int)} : LOK S [] := ⟨by simp, rfl, by simp⟩
theorem hasId_app (l k : List En) (i : Nat) : hasId (l ++ k) i = (hasId l i || hasId k i) := by simp [hasId]
theorem uniq_app : ∀ {l k : List En}, uniq (l ++ k) = true -> uniq l = true /\ uniq k = true
  | [], k, h => ⟨rfl, h⟩
  | a :: l, k, h => by
    simp only [List.cons_append, uniq, hasId_app, Bool.and_eq_true, Bool.not_eq_true', Bool.or_eq_false_iff] at h ⊢; have := uniq_app h.2; exact ⟨⟨h.1.1, this.1⟩, this.2⟩
theorem LOK.pre {S : List (Nat × List Int)} {l k : List En} (h : LOK S l) (hk : k <+: l) : LOK S k := by
  obtain ⟨t, rfl⟩ := hk; exact ⟨fun e he => h.all e (List.mem_append_left _ he), (uniq_app h.uniq).1, by have := h.len; rw [List.length_append] at this; omega⟩
theorem LOK.drop {S : List (Nat × List Int)} {l : List En} (h : LOK S l) (k : Nat) : LOK S (l.drop k) :=
  ⟨fun e he => h.all e (List.mem_of_mem_drop he), (uniq_app (l := l.take k) (by rw [List.take_append_drop]; exact h.uniq)).2, by have := h.len; rw [List.length_drop]; omega⟩
theorem LOK.sing {S : List (Nat × List Int)} {e : En} (h : EOK S e) : LOK S [e] := ⟨fun x hx => by rw [List.mem_singleton.1 hx]; exact h, rfl, by simp⟩
theorem hasId_get {l : List En} {i : Nat} : hasId l i = true ↔ ∃ e ∈ l, e.id = i := by simp [hasId]
theorem ad4 : ∀ {l : List En} {e : En}, uniq l = true -> hasId l e.id = false -> uniq (l ++ [e]) = true
  | [], e, _, _ => rfl
  | a :: l, e, h, k => by
    simp only [List.cons_append, uniq, hasId_app, Bool.and_eq_true, Bool.not_eq_true', Bool.or_eq_false_iff] at h ⊢; simp only [hasId, List.any_cons, Bool.or_eq_false_iff] at k; refine ⟨⟨h.1, ?_⟩, ad4 h.2 k.2⟩; simp only [hasId, List.any_cons, List.any_nil, Bool.or_false, decide_eq_false_iff_not]; exact fun x => (decide_eq_false_iff_not.1 k.1) x.symm
structure Gh where
  n : Nat
  V : Nat -> Nat
  acc : Nat -> Nat -> Option (List En)
  ini : Nat -> Nat
  S : List (Nat × List Int)
def Comm (g : Gh) (v : Nat) (x : List En) : Prop := ∃ u, u <= v /\ ∃ Q, quo g.n Q /\ ∀ p, p < g.n -> Q p = true -> ∃ l, g.acc p u = some l /\ x <+: l
def VoteOK (g : Gh) (q v lst : Nat) (l : List En) : Prop := v <= g.V q /\ lst <= v /\ ∃ k, g.acc q lst = some k /\ l <+: k /\ (lst < v -> l = k /\ ∀ u, lst < u -> u < v -> g.acc q u = none)
def Elec (g : Gh) (v : Nat) (L : List En) (i : Nat) : Prop := ∃ Q b Lb, quo g.n Q /\ b < v /\ (∀ p, p < g.n -> Q p = true -> v <= g.V p /\ (∀ u, b < u -> u < v -> g.acc p u = none) /\ ∀ l, g.acc p b = some l -> l.length <= i) /\ g.acc (b % g.n) b = some Lb /\ i <= Lb.length /\ g.ini b <= i /\ L.take i = Lb.take i
structure GOK (g : Gh) : Prop where
  pos : 0 < g.n
  zero : ∀ p, p < g.n -> ∃ l, g.acc p 0 = some l
  ini0 : g.ini 0 = 0
  acc : ∀ p, p < g.n -> ∀ v l, g.acc p v = some l -> v <= g.V p /\ LOK g.S l /\ ∃ L, g.acc (v % g.n) v = some L /\ l <+: L /\ g.ini v <= l.length
  elec : ∀ v L, 0 < v -> g.acc (v % g.n) v = some L -> Elec g v L (g.ini v)
structure Le (g h : Gh) : Prop where
  n : h.n = g.n
  V : ∀ p, g.V p <= h.V p
  old : ∀ p u, u < g.V p -> h.acc p u = g.acc p u
  grow : ∀ p u l, g.acc p u = some l -> ∃ k, h.acc p u = some k /\ l <+: k
  ini : ∀ v L, g.acc (v % g.n) v = some L -> h.ini v = g.ini v
  S : ∀ x ∈ g.S, x ∈ h.S
structure Only (r : Nat) (g h : Gh) : Prop where
  S : h.S = g.S
  at_ : ∀ p, p ≠ r -> h.V p = g.V p /\ ∀ u, h.acc p u = g.acc p u
theorem Le.refl (g : Gh) : Le g g := ⟨rfl, fun _ => Nat.le_refl _, fun _ _ _ => rfl, fun _ _ l h => ⟨l, h, List.prefix_refl _⟩, fun _ _ _ => rfl, fun _ h => h⟩
theorem Le.trans {g h k : Gh} (a : Le g h) (b : Le h k) : Le g k where
  n := b.n.trans a.n
  V p := Nat.le_trans (a.V p) (b.V p)
  old p u hu := (b.old p u (Nat.lt_of_lt_of_le hu (a.V p))).trans (a.old p u hu)
  grow p u l hl := by
    obtain ⟨x, hx, h1⟩ := a.grow p u l hl; obtain ⟨y, hy, h2⟩ := b.grow p u x hx; exact ⟨y, hy, h1.trans h2⟩
  ini v L hL := by
    obtain ⟨x, hx, _⟩ := a.grow _ v L hL; exact (b.ini v x (by rw [a.n]; exact hx)).trans (a.ini v L hL)
  S x hx := b.S x (a.S x hx)
theorem Only.refl (r : Nat) (g : Gh) : Only r g g := ⟨rfl, fun _ _ => ⟨rfl, fun _ => rfl⟩⟩
theorem Only.trans {r : Nat} {g h k : Gh} (a : Only r g h) (b : Only r h k) : Only r g k := ⟨b.S.trans a.S, fun p hp => ⟨(b.at_ p hp).1.trans (a.at_ p hp).1, fun u => ((b.at_ p hp).2 u).trans ((a.at_ p hp).2 u)⟩⟩
theorem Comm.nil {g : Gh} (h : GOK g) (v : Nat) : Comm g v [] := ⟨0, Nat.zero_le _, fun _ => true, afr h.pos, fun p hp _ => let ⟨l, hl⟩ := h.zero p hp; ⟨l, hl, List.nil_prefix⟩⟩
theorem Comm.mono {g : Gh} {v w : Nat} {x y : List En} (h : Comm g v x) (hv : v <= w) (hy : y <+: x) : Comm g w y := by
  obtain ⟨u, hu, Q, hQ, k⟩ := h; exact ⟨u, Nat.le_trans hu hv, Q, hQ, fun p hp hq => let ⟨l, a, b⟩ := k p hp hq; ⟨l, a, hy.trans b⟩⟩
theorem Comm.le {g h : Gh} (a : Le g h) {v : Nat} {x : List En} (k : Comm g v x) : Comm h v x := by
  obtain ⟨u, hu, Q, hQ, k⟩ := k; refine ⟨u, hu, Q, by rw [a.n]; exact hQ, fun p hp hq => ?_⟩
  obtain ⟨l, h1, h2⟩ := k p (by rw [<- a.n]; exact hp) hq
  obtain ⟨m, h3, h4⟩ := a.grow p u l h1; exact ⟨m, h3, h2.trans h4⟩
theorem VoteOK.le {g h : Gh} (a : Le g h) {q v lst : Nat} {l : List En} (k : VoteOK g q v lst l) : VoteOK h q v lst l := by
  obtain ⟨h1, h2, k, h3, h4, h5⟩ := k; by_cases hl : lst < v
  · obtain ⟨h6, h7⟩ := h5 hl
    exact ⟨Nat.le_trans h1 (a.V q), h2, k, by rw [a.old q lst (by omega)]; exact h3, h4, fun _ => ⟨h6, fun u hu hv => by rw [a.old q u (by omega)]; exact h7 u hu hv⟩⟩
  · obtain ⟨m, h6, h7⟩ := a.grow q lst k h3
    exact ⟨Nat.le_trans h1 (a.V q), h2, m, h6, h4.trans h7, fun x => absurd x hl⟩
theorem qz {l k : List En} {i : Nat} (h : l <+: k) (hi : i <= l.length) : k.take i = l.take i := by
  obtain ⟨t, rfl⟩ := h; exact List.take_append_of_le_length hi
theorem Elec.le {g h : Gh} (a : Le g h) {v i : Nat} {L M : List En} (k : Elec g v L i) (hM : M.take i = L.take i) : Elec h v M i := by
  obtain ⟨Q, b, Lb, h1, h2, h3, h4, h5, h6, h7⟩ := k; obtain ⟨Lc, h8, h9⟩ := a.grow _ b Lb h4; refine ⟨Q, b, Lc, by rw [a.n]; exact h1, h2, fun p hp hq => ?_, by rw [a.n]; exact h8, Nat.le_trans h5 h9.length_le, by rw [a.ini b Lb h4]; exact h6, by rw [hM, h7, qz h9 h5]⟩
  obtain ⟨x, y, z⟩ := h3 p (by rw [<- a.n]; exact hp) hq
  exact ⟨Nat.le_trans x (a.V p), fun u hu hv => by rw [a.old p u (by omega)]; exact y u hu hv, fun l hl => z l (by rw [<- a.old p b (by omega)]; exact hl)⟩
theorem safe {g : Gh} (G : GOK g) {u : Nat} {x : List En} {Q : Nat -> Bool} (hQ : quo g.n Q) (hx : ∀ p, p < g.n -> Q p = true -> ∃ l, g.acc p u = some l /\ x <+: l) :
    ∀ v L, u < v -> g.acc (v % g.n) v = some L -> x <+: L.take (g.ini v) := by
  intro v
  induction v using Nat.strongRecOn with
  | ind v ih =>
    intro L hv hL; obtain ⟨Q', b, Lb, h1, h2, h3, h4, h5, h6, h7⟩ := G.elec v L (by omega) hL
    obtain ⟨p, hp, hq, hq'⟩ := agn hQ h1; obtain ⟨l, hl, hxl⟩ := hx p hp hq; obtain ⟨h8, h9, h10⟩ := h3 p hp hq'; have hub : u <= b := Nat.le_of_not_lt fun hb => by rw [h9 u hb hv] at hl; cases hl
    rw [h7]; rcases Nat.eq_or_lt_of_le hub with rfl | hlt
    · obtain ⟨_, _, L', hL', hp', _⟩ := G.acc p hp u l hl
      rw [h4] at hL'; cases hL'; have hle := h10 l hl; have := hxl.trans hp'; have hlen := hxl.length_le; rw [List.prefix_iff_eq_take] at this ⊢; rw [List.take_take, Nat.min_eq_left (by omega)]; exact this
    · have := ih b h2 Lb hlt h4
      refine this.trans ?_; rw [List.prefix_iff_eq_take, List.length_take, List.take_take]
      congr 1; omega
theorem Comm.acc {g : Gh} (G : GOK g) {v w p : Nat} {x l : List En} (k : Comm g v x) (hv : v <= w) (hp : p < g.n) (hl : g.acc p w = some l) : x <+: l \/ l <+: x := by
  obtain ⟨u, hu, Q, hQ, k⟩ := k; obtain ⟨_, _, L, hL, h1, h2⟩ := G.acc p hp w l hl; rcases Nat.eq_or_lt_of_le (Nat.le_trans hu hv) with rfl | hlt
  · obtain ⟨q, hq, hqQ⟩ := zn hQ
    obtain ⟨m, hm, hxm⟩ := k q hq hqQ; obtain ⟨_, _, L', hL', h3, _⟩ := G.acc q hq u m hm; rw [hL] at hL'; cases hL'; exact List.prefix_or_prefix_of_prefix (hxm.trans h3) h1
  · have h3 := safe G hQ k w L hlt hL
    left
    rw [qz h1 h2] at h3; exact h3.trans (List.take_prefix _ _)
theorem Comm.lt {g : Gh} (G : GOK g) {v w p : Nat} {x l : List En} (k : Comm g v x) (hv : v < w) (hp : p < g.n) (hl : g.acc p w = some l) : x <+: l := by
  obtain ⟨u, hu, Q, hQ, k⟩ := k; obtain ⟨_, _, L, hL, h1, h2⟩ := G.acc p hp w l hl; have h3 := safe G hQ k w L (by omega) hL
  rw [qz h1 h2] at h3; exact h3.trans (List.take_prefix _ _)
theorem Comm.chain {g : Gh} (G : GOK g) {v w : Nat} {x y : List En} (k : Comm g v x) (m : Comm g w y) : x <+: y \/ y <+: x := by
  have aux : ∀ {u u' : Nat} {x y : List En} {Q Q' : Nat -> Bool}, u <= u' -> quo g.n Q -> (∀ p, p < g.n -> Q p = true -> ∃ l, g.acc p u = some l /\ x <+: l) -> quo g.n Q' -> (∀ p, p < g.n -> Q' p = true -> ∃ l, g.acc p u' = some l /\ y <+: l) -> x <+: y \/ y <+: x := by
    intro u u' x y Q Q' hle hQ hx hQ' hy; obtain ⟨p, hp, hq⟩ := zn hQ'; obtain ⟨l, hl, hyl⟩ := hy p hp hq; rcases Comm.acc G ⟨u, Nat.le_refl _, Q, hQ, hx⟩ hle hp hl with h | h
    · exact List.prefix_or_prefix_of_prefix h hyl
    · exact .inr (hyl.trans h)
  obtain ⟨u, _, Q, hQ, hx⟩ := k; obtain ⟨u', _, Q', hQ', hy⟩ := m; rcases Nat.le_total u u' with h | h
  · exact aux h hQ hx hQ' hy
  · exact (aux h hQ' hy hQ hx).symm
theorem Comm.lok {g : Gh} (G : GOK g) {v : Nat} {x : List En} (k : Comm g v x) : LOK g.S x := by
  obtain ⟨u, _, Q, hQ, hx⟩ := k; obtain ⟨p, hp, hq⟩ := zn hQ; obtain ⟨l, hl, h⟩ := hx p hp hq; exact (G.acc p hp u l hl).2.1.pre h
end Ag
end Go.Proofs.Ytbciofnejefkiaa
namespace Go.Proofs.Ytbciofnejefkiaa
open Go Go.Am Go.Proofs
theorem Ag.encEs_len'' : ∀ (l : List En), (∀ e ∈ l, e.row.length <= 16) -> (cn l).length <= 220 * l.length
  | [], _ => by simp [cn]
  | e :: l, h => by
    have h1 := h e (List.mem_cons_self); have h2 := Ag.encEs_len'' l fun x hx => h x (List.mem_cons_of_mem _ hx)
    have h3 := ajk e; have h5 : cn (e :: l) = enc1 e ++ cn l := by simp [cn]
    rw [h5, List.length_append, List.length_cons]; omega
theorem yf {l : List Int} {i : Nat} {v : Int} (h : l[i]? = some v) : (l.map mI)[i]? = some (mI v) := by simp [h]
theorem aeo {l k : List Int} {i : Nat} {a b : Int} (ha : l[i]? = some a) (hb : k[i]? = some b) (h : l.take i = k.take i) (hab : a = b) : l.take (i + 1) = k.take (i + 1) := by
  rw [List.take_add_one, List.take_add_one, h, ha, hb, hab]
theorem aj3 {l k : List Int} {i : Nat} {a b : Int} (ha : l[i]? = some a) (hb : k[i]? = some b) (hab : ¬ a = b) : ¬ l = k := fun e => by
  subst e; rw [ha] at hb; exact hab (Option.some.inj hb)
theorem EqualR_calls (H : AHeap) (a b : List Int) (ha : a.length <= 1000000000) (hb : b.length <= 1000000000) : ACalls Try.prog 84 [.sls a.length (a.map mI), .sls b.length (b.map mI)] H fun r H' => r = bB (decide (a = b)) /\ H' = H := by
  refine gm Try.func84 rfl (by decide) ?_
  focus (refine az ?_; refine bc ?_; refine bq ?_; refine ey ?_; refine ey ?_; refine jk ?_; refine aq ?_; refine ax rfl (fun hc => ?_) (fun hc => ?_); refine cp ?_; refine db ?_; rotate_left; refine cy ?_; refine bq ?_; refine ey ?_; refine ig ?_; rotate_left)
  · exact ⟨.inl rfl, _, _, _, Ent.refl _ _, ret1 rfl rfl, by rw [decide_eq_false (fun (e : a = b) => hc (congrArg List.length e))]; rfl, rfl⟩
  have hlen : a.length = b.length := by omega
  refine cv (fun mm R' H2 => ∃ (i : Nat), H2 = H /\ R' = [(0, .sls a.length (a.map mI)), (1, .sls b.length (b.map mI)), (12, .raw (.int .i64 (a.length : Int))), (13, .raw (.int .i64 (i : Int)))] /\ a.take i = b.take i /\ i + mm = a.length) ?_ ?_
  · exact ⟨a.length, _, _, ba, 0, rfl, rfl, rfl, by omega⟩
  rintro mm R0 H2 ⟨i, rfl, rfl, ht, hi⟩; by_cases hlt : i < a.length
  · have hga : a[i]? = some a[i] := List.getElem?_eq_getElem hlt
    have hgb : b[i]? = some (b[i]'(by omega)) := List.getElem?_eq_getElem (by omega)
    have g1 := yf hga; have g2 := yf hgb; have hsn := fun e => aeo hga hgb ht e
    have hne := fun e => aj3 hga hgb e
    generalize a[i] = x at *; generalize b[i]'(by omega) = y at *
    focus (refine br ?_; refine ax rfl (fun hc => ?_) (fun hc => ?_); refine ct ?_; refine an ?_; refine bc ?_; refine cj ?_; refine k7 ?_; refine bj ?_; refine l0 ?_; (apply ay; · exact ls rfl ij); refine k7 ?_; refine bj ?_; refine l0 ?_; (apply ay; · exact ls rfl ij); (apply ay; · exact nu rfl rfl); refine de ?_; refine ax rfl (fun hc => ?_) (fun hc => ?_); refine cp ?_; refine j9 ?_; refine fi ?_; rotate_left; refine di ?_; refine dl ?_; rotate_left; exact absurd hc aj)
    all_goals first
      | exact ⟨.inl rfl, _, _, _, Ent.refl _ _, ret1 rfl rfl, by rw [decide_eq_false (hne hc)]; rfl, rfl⟩
      | exact ⟨mm - 1, _, _, by omega, ba, i + 1, rfl, rfl, hsn (Decidable.of_not_not hc), by omega⟩
      | (exfalso; omega)
  obtain rfl : i = a.length := by omega
  rw [List.take_length, hlen, List.take_length] at ht
  focus (refine br ?_; refine c8 ?_; intro hc; refine cp ?_)
  all_goals first
    | (exfalso; omega)
    | exact ⟨.inl rfl, _, _, _, Ent.refl _ _, ret1 rfl rfl, by rw [decide_eq_true ht]; rfl, rfl⟩
theorem ana (H : AHeap) (a b : En) (ha : a.row.length <= 1000000000) (hb : b.row.length <= 1000000000) : ACalls Try.prog 83 [.agg a.cells, .agg b.cells] H fun r H' => r = bB (Ag.sameE a b) /\ H' = H := by
  refine gm Try.func83 rfl (by decide) ?_
  focus (refine az ?_; refine zb4 rfl rfl rfl ?_; refine zb4 rfl rfl rfl ?_; refine dk ?_; refine ez ?_; refine ez ?_; refine fh ?_; refine an ?_; refine zg1 rfl rfl rfl (fun hc => ?_) (fun hc => ?_); refine ko ?_; refine a0 ?_; refine gx ?_; refine a0 ?_; refine ko ?_; refine a0 ?_; refine gx ?_; refine a0 ?_; (refine zc ah (EqualR_calls _ a.row b.row ha hb) ?_; rintro r H' ⟨rfl, rfl⟩); refine bu ?_; refine bn ?_; rotate_left; refine dp ?_; refine cd ?_; refine bn ?_; rotate_left)
  · exact ⟨.inl rfl, _, _, _, Ent.refl _ _, ret1 rfl rfl, by rw [show Ag.sameE a b = decide (a.row = b.row) from by simp [Ag.sameE, hc]]; rfl, rfl⟩
  · exact ⟨.inl rfl, _, _, _, Ent.refl _ _, ret1 rfl rfl, by rw [show Ag.sameE a b = false from by simp [Ag.sameE, hc]]; rfl, rfl⟩
theorem agu : ∀ {l k : List En}, ¬ l.length = k.length -> Ag.eqL l k = false
  | [], [], h => absurd rfl h
  | [], b :: k, _ => rfl
  | a :: l, [], _ => rfl
  | a :: l, b :: k, h => by rw [Ag.eqL, agu (fun e => h (by simp [e]))]; simp
theorem ahs : ∀ {l k : List En} {i : Nat} {a b : En}, l[i]? = some a -> k[i]? = some b -> Ag.sameE a b = false -> Ag.eqL l k = false
  | x :: l, y :: k, 0, a, b, ha, hb, h => by cases ha; cases hb; rw [Ag.eqL, h]; rfl
  | x :: l, y :: k, i + 1, a, b, ha, hb, h => by rw [Ag.eqL, ahs (i := i) (l := l) (k := k) ha hb h]; simp
theorem ahx : ∀ {l k : List En}, l.length = k.length -> (∀ (i : Nat) (a b : En), l[i]? = some a -> k[i]? = some b -> Ag.sameE a b = true) -> Ag.eqL l k = true
  | [], [], _, _ => rfl
  | a :: l, b :: k, h, hs => by rw [Ag.eqL, hs 0 a b rfl rfl, ahx (by simpa using h) (fun i x y hx hy => hs (i + 1) x y hx hy)]; rfl
theorem v8 (l : List En) (k : Nat) (h : k <= l.length) : (l.flatMap En.cells).take (k * 3) = (l.take k).flatMap En.cells := by
  have e : l.flatMap En.cells = (l.take k).flatMap En.cells ++ (l.drop k).flatMap En.cells := by rw [<- List.flatMap_append, List.take_append_drop]
  have hl : ((l.take k).flatMap En.cells).length = k * 3 := by rw [i8 (sz := 3) (fun _ => rfl), List.length_take, Nat.min_eq_left h]
  rw [e, <- hl, List.take_left]
theorem EqualF_calls (H : AHeap) (l k : List En) (hl : l.length <= 1000000000) (hk : k.length <= 1000000000) (hr : ∀ e ∈ l, e.row.length <= 1000000000) (hr2 : ∀ e ∈ k, e.row.length <= 1000000000) :
    ACalls Try.prog 85 [lsE l, lsE k, .fnc (.func 83) [] []] H fun r H' => r = bB (Ag.eqL l k) /\ H' = H := by
  refine lz Try.func85 rfl (by decide) ?_
  focus (refine az ?_; refine bc ?_; refine bq ?_; refine ey ?_; refine ey ?_; refine jk ?_; refine aq ?_; refine ax rfl (fun hc => ?_) (fun hc => ?_); refine cp ?_; refine db ?_; rotate_left; refine cy ?_; refine bq ?_; refine ey ?_; refine ig ?_; rotate_left)
  · exact ⟨.inl rfl, _, _, _, Ent.refl _ _, ret1 rfl rfl, by rw [agu hc]; rfl, rfl⟩
  have hlen : l.length = k.length := by omega
  refine cv (fun mm R' H2 => ∃ (i : Nat), H2 = H /\ R' = [(0, lsE l), (1, lsE k), (2, .fnc (.func 83) [] []), (15, lsE l), (16, .raw (.int .i64 (l.length : Int))), (17, .raw (.int .i64 (i : Int)))] /\ (∀ (j : Nat) (a b : En), j < i -> l[j]? = some a -> k[j]? = some b -> Ag.sameE a b = true) /\ i + mm = l.length) ?_ ?_
  · exact ⟨l.length, _, _, ba, 0, rfl, rfl, fun j a b h => absurd h (Nat.not_lt_zero _), by omega⟩
  rintro mm R0 H2 ⟨i, rfl, rfl, ht, hi⟩; by_cases hlt : i < l.length
  · have hga : l[i]? = some l[i] := List.getElem?_eq_getElem hlt
    have hgb : k[i]? = some (k[i]'(by omega)) := List.getElem?_eq_getElem (by omega)
    have hra := hr _ (List.getElem_mem hlt); have hrb := hr2 _ (List.getElem_mem (show i < k.length by omega))
    have g1 := oc hga; have g2 := oc hgb; have hne := fun e => ahs hga hgb e
    have hst : ∀ e : Ag.sameE l[i] (k[i]'(by omega)) = true, ∀ (j : Nat) (a b : En), j < i + 1 -> l[j]? = some a -> k[j]? = some b -> Ag.sameE a b = true := fun e j a b hj ha hb => by
      rcases Nat.lt_succ_iff_lt_or_eq.1 hj with h | rfl
      · exact ht j a b h ha hb
      · rw [hga] at ha; rw [hgb] at hb; cases ha; cases hb; exact e
    generalize l[i] = x at *; generalize k[i]'(by omega) = y at *
    focus (refine br ?_; refine ax rfl (fun hc => ?_) (fun hc => ?_); refine ct ?_; refine an ?_; refine ic ?_; refine nk ?_; refine cz rfl rfl rfl (fun oN hoN => ?_); refine dq ?_; refine jo ?_; refine il ?_; refine dt ?_; refine an ?_; refine ic ?_; refine nk ?_; refine cz rfl rfl rfl (fun oN hoN => ?_); refine jo ?_; refine il ?_; refine rj ?_; refine ip ?_; refine ip ?_; (((refine zu rfl rfl ah (ana _ x y hra hrb) (fun r H' hpost => ?_); obtain ⟨rfl, rfl⟩ := hpost))); refine ea ?_; refine aq ?_; refine qp rfl (fun hc => ?_) (fun hc => ?_); refine cp ?_; refine j9 ?_; refine fi ?_; rotate_left; refine di ?_; refine dl ?_; rotate_left; exact absurd hc aj)
    all_goals first
      | (exfalso; omega)
      | exact ⟨.inl rfl, _, _, _, Ent.refl _ _, ret1 rfl rfl, by rw [hne (by simpa using hc)]; rfl, rfl⟩
      | exact ⟨mm - 1, _, _, by omega, ba, i + 1, rfl, rfl, hst (by simpa using hc), by omega⟩
  obtain rfl : i = l.length := by omega
  have hall : Ag.eqL l k = true := ahx hlen fun j a b ha hb => ht j a b (List.getElem?_eq_some_iff.1 ha).1 ha hb
  focus (refine br ?_; refine c8 ?_; intro hc; refine cp ?_)
  all_goals first
    | (exfalso; omega)
    | exact ⟨.inl rfl, _, _, _, Ent.refl _ _, ret1 rfl rfl, by rw [hall]; rfl, rfl⟩
theorem aa4 (H : AHeap) (l w : List En) (hl : l.length <= 1000000000) (hk : w.length <= 1000000000) (hr : ∀ e ∈ l, e.row.length <= 1000000000) (hr2 : ∀ e ∈ w, e.row.length <= 1000000000) :
    ACalls Try.prog 62 [lsE l, lsE w] H fun r H' => r = bB (Ag.begins l w) /\ H' = H := by
  refine gm Try.func62 rfl (by decide) ?_
  have hE : w.length <= l.length -> ∀ H, ACalls Try.prog 85 [.sls (w.length - 0) (List.take ((w.length - 0) * 3) (List.drop (0 * 3) (l.flatMap En.cells))), lsE w, .fnc (.func 83) [] []] H fun r H' => r = bB (Ag.eqL (l.take w.length) w) /\ H' = H := fun hle H => by
    have e : List.take ((w.length - 0) * 3) (List.drop (0 * 3) (l.flatMap En.cells)) = (l.take w.length).flatMap En.cells := by
      rw [Nat.sub_zero, Nat.zero_mul, List.drop_zero]; exact v8 l w.length hle
    have := EqualF_calls H (l.take w.length) w (by rw [List.length_take]; omega) hk (fun e he => hr e (List.mem_of_mem_take he)) hr2
    have e2 : (l.take w.length).length = w.length := by rw [List.length_take]; omega
    unfold lsE at this; rw [e2] at this; rw [e, Nat.sub_zero]; exact this
  focus (refine f0 ?_; refine ae rfl (gq (v := .fnc _ _ _) rfl) ?_; refine il ?_; refine ey ?_; refine ey ?_; refine ln ?_; refine an ?_; refine zg1 rfl rfl rfl (fun hc => ?_) (fun hc => ?_); refine dt ?_; refine a0 ?_; refine dt ?_; refine a0 ?_; refine eu ?_; refine a0 ?_; refine ae rfl (vz rfl ji ji au au) ?_; refine a0 ?_; refine dt ?_; refine a0 ?_; refine rj ?_; refine a0 ?_; (refine zc ah (hE (by omega) _) ?_; rintro r H' ⟨rfl, rfl⟩); refine bu ?_; refine bn ?_; rotate_left; refine dp ?_; refine gp ?_; refine cd ?_; refine bn ?_; rotate_left)
  · exact ⟨.inl rfl, _, _, _, Ent.refl _ _, ret1 rfl rfl, by rw [show Ag.begins l w = Ag.eqL (l.take w.length) w from by simp [Ag.begins, hc]]; rfl, rfl⟩
  · exact ⟨.inl rfl, _, _, _, Ent.refl _ _, ret1 rfl rfl, by rw [show Ag.begins l w = false from by simp [Ag.begins, hc]]; rfl, rfl⟩
theorem rz {k k' : Int} {v : AV} : ∀ (es : MI), (es.put k v).get k' = if k = k' then some v else es.get k'
  | [] => by simp [MI.put, MI.get]
  | (a, u) :: es => by
    have ih := rz (k := k) (k' := k') (v := v) es; unfold MI.put; by_cases h : a = k
    · rw [if_pos h]; subst h; simp only [MI.get]; split <;> rfl
    · rw [if_neg h]; simp only [MI.get, ih]
      by_cases h2 : a = k'
      · rw [if_pos h2, if_neg (fun e => h (by rw [h2, e])), if_pos h2]
      · rw [if_neg h2, if_neg h2]
def seenM (l : List En) : MI := l.foldl (fun m e => m.put (e.id : Int) (bB true)) []
theorem amf (l : List En) (e : En) : seenM (l ++ [e]) = (seenM l).put (e.id : Int) (bB true) := by simp [seenM]
theorem aqb (l : List En) (k : Nat) : (seenM l).get (k : Int) = if Ag.hasId l k = true then some (bB true) else none := by
  have : ∀ (l : List En) (m : MI), (l.foldl (fun m e => m.put (e.id : Int) (bB true)) m).get (k : Int) = if Ag.hasId l k = true then some (bB true) else m.get (k : Int) := by
    intro l
    induction l with
    | nil => intro m; simp [Ag.hasId]
    | cons e l ih =>
      intro m; rw [List.foldl_cons, ih, rz]; by_cases h : e.id = k
      · simp [Ag.hasId, h]
      · have h' : ¬ ((e.id : Int) = (k : Int)) := by omega
        simp [Ag.hasId, h, h']
  have := this l []; simpa [seenM, MI.get] using this
theorem abw : ∀ (l : List En) (e : En), Ag.uniq (l ++ [e]) = (Ag.uniq l && !Ag.hasId l e.id)
  | [], e => by simp [Ag.uniq, Ag.hasId]
  | a :: l, e => by
    rw [List.cons_append, Ag.uniq, abw l e, Ag.hasId_app, Ag.uniq]; have : Ag.hasId [e] a.id = decide (e.id = a.id) := by simp [Ag.hasId]
    have h2 : Ag.hasId (a :: l) e.id = (decide (a.id = e.id) || Ag.hasId l e.id) := by simp [Ag.hasId]
    rw [this, h2]; by_cases h : e.id = a.id
    · simp [h]
    · have h' : ¬ a.id = e.id := fun x => h x.symm
      simp [h, h']
      cases Ag.hasId l a.id <;> cases Ag.uniq l <;> cases Ag.hasId l e.id <;> rfl
theorem ap5 {l : List En} {i : Nat} {e : En} (h : l[i]? = some e) (hb : Ag.may e = false \/ Ag.hasId (l.take i) e.id = true) : Ag.listed l = false := by
  cases hl : Ag.listed l with
  | false => rfl
  | true =>
    exfalso
    simp only [Ag.listed, Bool.and_eq_true, List.all_eq_true] at hl; rcases hb with hb | hb
    · rw [hl.1.1 e (List.mem_of_getElem? h)] at hb; cases hb
    · have hu := hl.1.2
      rw [<- List.take_append_drop (i + 1) l] at hu; have h2 := (Ag.uniq_app hu).1; rw [List.take_add_one, h] at h2; simp only [Option.toList_some] at h2; rw [abw, hb] at h2; simp at h2
theorem acp (H : AHeap) (l : List En) (hl : l.length <= 1000000000) (hr : ∀ e ∈ l, e.row.length <= 1000000000) : ACalls Try.prog 51 [lsE l] H fun r H' => r = bB (Ag.listed l) /\ H' = H := by
  refine ej Try.func51 rfl (by decide) ?_
  focus (refine f0 ?_; refine uc rfl (fun oN hoN => ?_); refine ae rfl (gq (v := .mp _) rfl) ?_; refine aq ?_; refine bq ?_; refine ey ?_; refine ig ?_)
  refine cv (fun mm R' H2 => ∃ (i : Nat), H2 = H.set oN ((seenM (l.take i)).ao .u64) /\ R' = [(3, .mp oN), (0, lsE l), (7, lsE l), (8, .raw (.int .i64 (l.length : Int))), (9, .raw (.int .i64 (i : Int)))] /\ (l.take i).all Ag.may = true /\ Ag.uniq (l.take i) = true /\ i + mm = l.length) ?_ ?_
  · exact ⟨l.length, _, _, ba, 0, by rw [List.take_zero]; rfl, rfl, by rw [List.take_zero]; rfl, by rw [List.take_zero]; rfl, by omega⟩
  rintro mm R0 H2 ⟨i, rfl, rfl, hma, hun, hi⟩; by_cases hlt : i < l.length
  · have hg : l[i]? = some l[i] := List.getElem?_eq_getElem hlt
    have hm := hr _ (List.getElem_mem hlt); have hge := oc hg; have hbad := fun x => ap5 hg x
    have hmap : ((seenM (l.take i)).get (l[i].id : Int)).getD (.raw (.bool false)) = bB (Ag.hasId (l.take i) l[i].id) := by
      rw [aqb]; cases Ag.hasId (l.take i) l[i].id <;> rfl
    have hsn := amf (l.take i) l[i]; have hus := abw (l.take i) l[i]; have hts : l.take (i + 1) = l.take i ++ [l[i]] := by rw [List.take_add_one, hg]; rfl
    generalize l[i] = e at *
    focus (refine br ?_; refine ax rfl (fun hc => ?_) (fun hc => ?_); refine ct ?_; refine ic ?_; refine nk ?_; refine cz rfl rfl rfl (fun oN hoN => ?_); refine jo ?_; refine aq ?_; refine bq ?_; refine ip ?_; (refine zc ah (acu _ e hm) ?_; rintro r H' ⟨rfl, rfl⟩); refine ea ?_; refine an ?_; refine zg7 rfl rfl rfl (fun hc => ?_) (fun hc => ?_); refine gp ?_; refine fb ?_; refine bu ?_; refine gy ?_; refine cp ?_; refine fi ?_; refine fi ?_; rotate_left; refine ae rfl (ce (v := .mp _) rfl) ?_; refine a0 ?_; refine ko ?_; refine a0 ?_; refine gx ?_; refine a0 ?_; refine ae rfl (ady rfl rfl aa (by first | assumption | rfl)) ?_; refine cd ?_; refine aq ?_; refine qp rfl (fun hc => ?_) (fun hc => ?_); refine cp ?_; refine fi ?_; refine fi ?_; rotate_left; refine cy ?_; refine ca ?_; refine ae rfl (ce (v := .mp _) rfl) ?_; refine ez ?_; refine uk rfl rfl qe aa ?_; refine bb ?_; refine dl ?_; rotate_left; exact absurd hc aj)
    all_goals first
      | (exfalso; omega)
      | exact ⟨.inl rfl, _, _, _, Ent.gc mq, ret1 rfl rfl, by rw [hbad (.inl (by simpa using hc))]; rfl, rfl⟩
      | exact ⟨.inl rfl, _, _, _, Ent.gc mq, ret1 rfl rfl, by rw [hbad (.inr hc), hc]; rfl, rfl⟩
      | exact ⟨mm - 1, _, _, by omega, jt, i + 1, by rw [hts, hsn, AHeap.set_set], rfl, by rw [hts, List.all_append, hma]; simpa using ‹(!Ag.may e) = false›, by rw [hts, hus, hun, hc]; rfl, by omega⟩
  obtain rfl : i = l.length := by omega
  rw [List.take_length] at *; have hfin : Ag.listed l = decide (l.length <= 200) := by simp only [Ag.listed, hma, hun, Bool.true_and]
  focus (refine br ?_; refine c8 ?_; intro hc; refine az ?_; refine ey ?_; refine ae rfl (mt rfl rfl) ?_; refine bn ?_)
  all_goals first
    | (exfalso; omega)
    | exact ⟨.inl rfl, _, _, _, Ent.gc mq, ret1 rfl rfl, by rw [hfin]; rfl, rfl⟩
end Go.Proofs.Ytbciofnejefkiaa
namespace Go.Proofs.Ytbciofnejefkiaa
open Go Go.Am Go.Proofs
def bo (c : Ag.Co) (og oh : Nat) (wv : AV) : List AV := [mI c.me, mI c.n, uI c.view, uI c.last, lsE c.list, mI c.agreed, bB c.lead, mI c.quiet, .mp og, .mp oh, wv]
def voteA (v : Ag.Vt) : AV := .agg [uI v.last, lsE v.list]
structure GotM (es : MI) (c : Ag.Co) : Prop where
  get : ∀ k : Int, es.get k = if 0 <= k then (c.got k.toNat).map voteA else none
  len : es.length = c.size
structure HeldM (es : MI) (c : Ag.Co) : Prop where
  get : ∀ k : Int, es.get k = if 0 <= k then (c.held k.toNat).map uI else none
  nd : (es.map (·.1)).Nodup
structure Ob where
  o : Nat
  og : Nat
  oh : Nat
  ow : Nat
  os : Nat
  ov : Nat
  on : Nat
def Ob.l (F : Ob) : List Nat := [F.o, F.og, F.oh, F.ow, F.os, F.ov, F.on]
def Ob.c (F : Ob) : List Nat := [F.o, F.og, F.oh, F.ow]
def recB (me n : Nat) (x : Ag.Rd) : List UInt8 := jy [me, n, x.kind, x.view, x.last, x.agreed, x.list.length] ++ cn x.list
structure Nd (F : Ob) : Prop where
  o_og : F.o ≠ F.og
  o_oh : F.o ≠ F.oh
  o_ow : F.o ≠ F.ow
  o_os : F.o ≠ F.os
  o_ov : F.o ≠ F.ov
  o_on : F.o ≠ F.on
  og_oh : F.og ≠ F.oh
  og_ow : F.og ≠ F.ow
  og_os : F.og ≠ F.os
  og_ov : F.og ≠ F.ov
  og_on : F.og ≠ F.on
  oh_ow : F.oh ≠ F.ow
  oh_os : F.oh ≠ F.os
  oh_ov : F.oh ≠ F.ov
  oh_on : F.oh ≠ F.on
  ow_os : F.ow ≠ F.os
  ow_ov : F.ow ≠ F.ov
  ow_on : F.ow ≠ F.on
  os_ov : F.os ≠ F.ov
  os_on : F.os ≠ F.on
  ov_on : F.ov ≠ F.on
structure CAt (H : AHeap) (F : Ob) (c : Ag.Co) : Prop where
  core : ∃ off xs, H F.o = some (.cel (bo c F.og F.oh (.vw F.ow 3 off c.wait.length))) /\ H F.ow = some (.cel xs) /\ off + c.wait.length * 3 = xs.length /\ xs.drop off = c.wait.flatMap En.cells
  got : ∃ es : MI, H F.og = some (es.ao .i64) /\ GotM es c
  held : ∃ es : MI, H F.oh = some (es.ao .i64) /\ HeldM es c
structure SAt (H : AHeap) (F : Ob) (s : Ag.St) : Prop where
  c : CAt H F s.c
  st : H F.os = some (.cel [.vw F.ov 1 0 s.save.length, .vw F.on 9 0 s.send.length])
  sv : H F.ov = some (.cel (s.save.map fun x => .bys (recB s.c.me s.c.n x)))
  sn : H F.on = some (.cel (s.send.flatMap Mg.cells))
  nd : Nd F
structure LF (l : List En) : Prop where
  ok : ∀ e ∈ l, e.Ok /\ e.row.length <= 16
  len : l.length <= 200
structure CFine (c : Ag.Co) : Prop where
  me : c.me < c.n
  n : c.n <= 7
  view : c.view <= Ag.mostView
  last : c.last <= Ag.mostView
  list : LF c.list
  agr : c.agreed <= c.list.length
  wait : LF c.wait
  quiet : c.quiet <= 1000000000
  got : ∀ q x, c.got q = some x -> q < c.n /\ x.last <= Ag.mostView /\ LF x.list
  held : ∀ q h, c.held q = some h -> q < c.n /\ h < 2 ^ 64
structure Turn (L : List Nat) (H : AHeap) (F F' : Ob) (H' : AHeap) : Prop where
  o : F'.o = F.o
  os : F'.os = F.os
  new : ∀ p ∈ F'.l, p ∈ F.l \/ H p = none
  fr : ∀ p y, H p = some y -> p ∉ L -> H' p = some y
theorem Ob.cl {F : Ob} {p : Nat} (h : p ∈ F.c) : p ∈ F.l := by
  simp only [Ob.c, Ob.l, List.mem_cons, List.not_mem_nil, or_false] at *; rcases h with h | h | h | h <;> simp [h]
theorem Ob.nel {F : Ob} {p : Nat} (h : p ∉ F.l) : p ≠ F.o /\ p ≠ F.og /\ p ≠ F.oh /\ p ≠ F.ow /\ p ≠ F.os /\ p ≠ F.ov /\ p ≠ F.on := by
  simp only [Ob.l, List.mem_cons, List.not_mem_nil, or_false, not_or] at h; exact h
theorem ace (H : AHeap) (o : Nat) (c : Ag.Co) (og oh : Nat) (wv : AV) (v : Nat) (h : H o = some (.cel (bo c og oh wv))) (hn : 0 < c.n) (h7 : c.n <= 7) (hv : v < 2 ^ 64) :
    ACalls Try.prog 41 [.ptr o 0, uI v] H fun r H' => r = mI ((v % c.n : Nat) : Int) /\ H' = H := by
  unfold bo at h; have hm := Nat.mod_lt v hn; refine gm Try.func41 rfl (by decide) ?_
  focus (refine f0 ?_; refine an ?_; refine bl ?_; refine ae rfl (fu rfl (by omega)) ?_; refine ae rfl (uq rfl rfl au) ?_; refine ae rfl (qs rfl (by omega) (by omega)) ?_; refine bn ?_)
  exact ⟨.inl rfl, _, _, _, Ent.refl _ _, ret1 rfl rfl, rfl, rfl⟩
theorem aht (H : AHeap) (o : Nat) (c : Ag.Co) (og oh : Nat) (wv : AV) (h : H o = some (.cel (bo c og oh wv))) (h7 : c.n <= 7) :
    ACalls Try.prog 79 [.ptr o 0] H fun r H' => r = mI (c.quorum : Int) /\ H' = H := by
  unfold bo at h; refine ej Try.func79 rfl (by decide) ?_
  focus (refine f0 ?_; refine bl ?_; refine ae rfl (al3 rfl rfl (by omega) (by omega)) ?_; refine ae rfl (my rfl rfl au) ?_; refine bn ?_)
  exact ⟨.inl rfl, _, _, _, Ent.refl _ _, ret1 rfl rfl, rfl, rfl⟩
theorem adj {l : List En} (h : LF l) : (cn l).length <= 44000 := by
  have := Ag.encEs_len'' l fun e he => (h.ok e he).2
  have := h.len; omega
theorem anj {l : List Nat} {i : Nat} {v : Nat} (h : l[i]? = some v) : (l.map uI)[i]? = some (uI v) := by simp [h]
theorem anr (H : AHeap) (o : Nat) (c : Ag.Co) (og oh : Nat) (wv : AV) (x : Ag.Rd) (h : H o = some (.cel (bo c og oh wv))) (hme : c.me < 100) (hn : c.n < 100) (hk : x.kind < 100) (hv : x.view < 2 ^ 64) (hl : x.last < 2 ^ 64) (ha : x.agreed < 2 ^ 62) (hf : LF x.list) :
    ACalls Try.prog 90 [.ptr o 0, uI x.kind, uI x.view, uI x.last, mI x.agreed, lsE x.list] H fun r H' => r = .bys (recB c.me c.n x) /\ H' = H := by
  have hes := adj hf; have hlen := hf.len; have hrow := hf.ok; unfold bo at h; refine aq4 Try.func90 rfl (by decide) ?_
  focus (refine f0 ?_; refine bc ?_; refine bf ?_; refine bf ?_; refine ak1 dz dz ?_; refine cw ?_; (apply ay; · exact fu rfl (by omega)); refine cw ?_; (apply ay; · exact fu rfl (by omega)); refine bj ?_; refine bj ?_; refine bj ?_; refine bj ?_; (apply ay; · exact fu rfl (by omega)); refine k7 ?_; refine nh ?_; (apply ay; · exact fu rfl (by omega)); refine ago ?_; (apply ay; · exact xo rfl); refine bj ?_; refine de ?_; refine gi ?_)
  have hsm : ∀ v ∈ [c.me, c.n, x.kind, x.view, x.last, x.agreed, x.list.length], v < 2 ^ 64 := by
    intro v hv'; simp only [List.mem_cons, List.not_mem_nil, or_false] at hv'; omega
  have hrec : recB c.me c.n x = jy [c.me, c.n, x.kind, x.view, x.last, x.agreed, x.list.length] ++ cn x.list := rfl; have hvl : [c.me, c.n, x.kind, x.view, x.last, x.agreed, x.list.length].length = 7 := rfl; have hvm : [AV.raw (.int .u64 (c.me : Int)), .raw (.int .u64 (c.n : Int)), .raw (.int .u64 (x.kind : Int)), .raw (.int .u64 (x.view : Int)), .raw (.int .u64 (x.last : Int)), .raw (.int .u64 (x.agreed : Int)), .raw (.int .u64 (x.list.length : Int))] = [c.me, c.n, x.kind, x.view, x.last, x.agreed, x.list.length].map uI := rfl; rw [hrec]; generalize [c.me, c.n, x.kind, x.view, x.last, x.agreed, x.list.length] = vals at *; refine cv (fun mm R' H2 => ∃ (i : Nat) (acc : List UInt8), H2 = H /\ R' = [(5, lsE x.list), (13, .bys acc), (36, .sls 7 (vals.map uI)), (37, .raw (.int .i64 ((7 : Nat) : Int))), (38, .raw (.int .i64 (i : Int)))] /\ acc = jy (vals.take i) /\ i + mm = 7) ?_ ?_
  · exact ⟨7, _, _, (by rw [hvm]; exact xb), 0, [], rfl, rfl, by simp [jy], rfl⟩
  rintro mm R0 H2 ⟨i, acc, rfl, rfl, hacc, hi⟩; have hal := ux (vals.take i); rw [<- hacc, List.length_take] at hal; by_cases hlt : i < 7
  · have hg : vals[i]? = some vals[i] := List.getElem?_eq_getElem (by omega)
    have hv2 := hsm _ (List.getElem_mem (show i < vals.length by omega))
    have hs := ap6 hg; have g1 := anj hg; generalize vals[i] = v at *
    focus (refine br ?_; refine ax rfl (fun hc => ?_) (fun hc => ?_); refine ct ?_; refine ic ?_; refine gx ?_; refine bc ?_; refine ca ?_; refine ei ?_; refine an ?_; (refine zc ah (U_calls _ _ _ cq cq) ?_; rintro r H' ⟨rfl, rfl⟩); refine kv ?_; refine bb ?_; refine dl ?_; rotate_left; exact absurd hc aj)
    all_goals first
      | (exfalso; omega)
      | exact ⟨mm - 1, _, _, by omega, ba, i + 1, _, rfl, rfl, by rw [hs, hacc], by omega⟩
      | trace_state
  obtain rfl : i = 7 := by omega
  rw [List.take_of_length_le (by omega)] at hacc
  have hal2 : acc.length <= 77 := by omega
  clear hal
  focus (refine br ?_; refine c8 ?_; intro hc; refine bq ?_; refine ey ?_; refine ig ?_)
  all_goals try (exfalso; omega)
  refine cv (fun mm R' H3 => ∃ (i : Nat) (ac2 : List UInt8), H3 = H2 /\ R' = [(13, .bys ac2), (46, lsE x.list), (47, .raw (.int .i64 (x.list.length : Int))), (48, .raw (.int .i64 (i : Int)))] /\ ac2 = acc ++ cn (x.list.take i) /\ i + mm = x.list.length) ?_ ?_
  · exact ⟨x.list.length, _, _, ba, 0, acc, rfl, rfl, by simp [cn], by omega⟩
  clear hc; rintro mm R0 H3 ⟨i, ac2, rfl, rfl, hac2, hi⟩; have htk := adg x.list i; have hal3 : ac2.length = acc.length + (cn (x.list.take i)).length := by rw [hac2, List.length_append]
  by_cases hlt : i < x.list.length
  · have hg : x.list[i]? = some x.list[i] := List.getElem?_eq_getElem hlt
    obtain ⟨oke, hre⟩ := hrow _ (List.getElem_mem hlt); have hs := aau hg; have hge := oc hg; generalize x.list[i] = e at *; have hel := adb e
    focus (refine br ?_; refine ax rfl (fun hc => ?_) (fun hc => ?_); refine ct ?_; refine ic ?_; refine nk ?_; refine cz rfl rfl rfl (fun oN hoN => ?_); refine jo ?_; refine aq ?_; refine ca ?_; refine ei ?_; refine ip ?_; (refine zc ah (PutEntry_calls _ e oke (by omega)) ?_; rintro r H' ⟨rfl, rfl⟩); refine ae rfl (wu rfl dc v9) ?_; (refine zc ah (S_calls _ _ _ cq cq) ?_; rintro r H' ⟨rfl, rfl⟩); refine kv ?_; refine bb ?_; refine dl ?_; rotate_left; exact absurd hc aj)
    all_goals first
      | (exfalso; omega)
      | exact ⟨mm - 1, _, _, by omega, ba, i + 1, _, rfl, rfl, by rw [hs, hac2]; simp [enc1], by omega⟩
      | trace_state
  obtain rfl : i = x.list.length := by omega
  rw [List.take_length] at *
  focus (refine br ?_; refine c8 ?_; intro hc; refine az ?_; refine ei ?_; refine kv ?_; refine dv ?_)
  all_goals first
    | (exfalso; omega)
    | exact ⟨.inl rfl, _, _, _, Ent.refl _ _, ret1 rfl rfl, by rw [<- hacc, <- hac2]; rfl, rfl⟩
end Go.Proofs.Ytbciofnejefkiaa
namespace Go.Proofs.Ytbciofnejefkiaa
open Go Go.Am Go.Proofs
theorem Turn.refl (L : List Nat) (H : AHeap) (F : Ob) : Turn L H F F H := ⟨rfl, rfl, fun p hp => .inl hp, fun p y hp _ => hp⟩
theorem Turn.trans {H H1 H2 : AHeap} {F F1 F2 : Ob} (a : Turn F.l H F F1 H1) (b : Turn F1.l H1 F1 F2 H2) : Turn F.l H F F2 H2 where
  o := b.o.trans a.o
  os := b.os.trans a.os
  new p hp := by
    rcases b.new p hp with h | h
    · exact a.new p h
    · by_cases hF : p ∈ F.l
      · exact .inl hF
      · refine .inr ?_
        cases hx : H p with
        | none => rfl
        | some y => rw [a.fr p y hx hF] at h; cases h
  fr p y hp hF := by
    have h1 := a.fr p y hp hF; refine b.fr p y h1 fun hm => ?_
    rcases a.new p hm with h | h
    · exact hF h
    · rw [hp] at h; cases h
theorem qo (H : AHeap) (F : Ob) (s : Ag.St) (m : Mg) (h : SAt H F s) (hf : CFine s.c) (hl : s.send.length <= 100000) :
    ACalls Try.prog 40 [.ptr F.o 0, .ptr F.os 0, .agg m.cells] H fun r H' => r = .tup [] /\ ∃ F', SAt H' F' (s.out m) /\ Turn F.l H F F' H' := by
  obtain ⟨⟨⟨off, xs, hco, hw, hx1, hx2⟩, ⟨eg, hg, hg2⟩, ⟨eh, hh, hh2⟩⟩, hst, hsv, hsn, nd⟩ := h; obtain ⟨n1, n2, n3, n4, n5, n6, n7, n8, n9, n10, n11, n12, n13, n14, n15, n16, n17, n18, n19, n20, n21⟩ := nd; unfold bo at hco; have hsl : (s.send.flatMap Mg.cells).length = s.send.length * 9 := i8 (sz := 9) (fun _ => rfl) _
  refine lz Try.func40 rfl (by decide) ?_
  focus (refine az ?_; refine zb1 rfl rfl rfl (fun oN hoN => ?_); refine aq ?_; refine bf ?_; refine DC.aw_drawp (fun H' => H' F.o = some (.cel [mI s.c.me, mI s.c.n, uI s.c.view, uI s.c.last, lsE s.c.list, mI s.c.agreed, bB s.c.lead, mI s.c.quiet, .mp F.og, .mp F.oh, .vw F.ow 3 off s.c.wait.length])) (by first | exact aa | exact ⟨aa, aa⟩ | exact ⟨aa, aa, aa⟩) dz bg bg ?_; refine dx ?_; refine im ?_; refine e8 ?_; refine dx ?_; refine im ?_; refine e8 ?_; refine jr ?_; refine DC.awn_b0 ?_; refine jr ?_; refine DC.awn_b0 ?_; refine DC.awn_nil ?_; refine DC.awc_cons0 (fun Rx K1 hK1x => ?_); refine iq ?_; refine bb ?_; (refine hK1x _ (by first | exact Or.inl (by decide +kernel) | (refine Or.inr ?_; (try dsimp only); first | exact aa | exact ⟨aa, aa⟩ | exact ⟨aa, aa, aa⟩)) ?_; clear hK1x K1 Rx); refine DC.awc_cons0 (fun Rx K1 hK1x => ?_); refine iq ?_; refine bb ?_; (refine hK1x _ (by first | exact Or.inl (by decide +kernel) | (refine Or.inr ?_; (try dsimp only); first | exact aa | exact ⟨aa, aa⟩ | exact ⟨aa, aa, aa⟩)) ?_; clear hK1x K1 Rx); refine DC.awc_nil ?_; refine gj ?_; refine cj ?_; refine vq ?_; refine cw ?_; (apply ay; · exact nu rfl rfl); refine de ?_; refine ax rfl (fun hc => ?_) (fun hc => ?_); refine DC.aw_drawp (fun H' => H' F.o = some (.cel [mI s.c.me, mI s.c.n, uI s.c.view, uI s.c.last, lsE s.c.list, mI s.c.agreed, bB s.c.lead, mI s.c.quiet, .mp F.og, .mp F.oh, .vw F.ow 3 off s.c.wait.length])) (by first | exact aa | exact ⟨aa, aa⟩ | exact ⟨aa, aa, aa⟩) dz bg bg ?_; refine dx ?_; refine dx ?_; refine im ?_; (apply DC.awn_e bg; (· exact fc rfl aa rfl)); (apply DC.awn_e bg; (· exact pw rfl aa rfl rfl (by first | decide | exact Nat.le_of_ble_eq_true rfl))); (apply DC.awn_s; · (intros; exact zg (by ((repeat' (first | exact nq | apply np)); all_goals (first | exact (rfl : _ = AV.raw _) | exact (rfl : _ = AV.bys _) | exact (rfl : _ = AV.vw _ _ _ _) | exact (rfl : _ = AV.ptr _ _) | exact (rfl : _ = AV.str _) | exact (rfl : _ = AV.sls _ _) | exact (rfl : _ = AV.tup _) | exact (rfl : _ = AV.agg _) | exact (rfl : _ = AV.pce _ _) | exact (rfl : _ = AV.emp) | exact (rfl : _ = AV.bysx _) | exact (rfl : _ = AV.slsx _ _) | exact (rfl : _ = AV.mp _) | exact (rfl : _ = AV.fnc _ _ _) | exact (rfl : _ = AV.pby _ _) | exact (rfl : _ = AV.ifc _ _)))) (by rfl) (by rfl) (by rfl) (by ((repeat' (first | exact nq | apply np)); all_goals (first | exact (rfl : _ = AV.raw _) | exact (rfl : _ = AV.bys _) | exact (rfl : _ = AV.vw _ _ _ _) | exact (rfl : _ = AV.ptr _ _) | exact (rfl : _ = AV.str _) | exact (rfl : _ = AV.sls _ _) | exact (rfl : _ = AV.tup _) | exact (rfl : _ = AV.agg _) | exact (rfl : _ = AV.pce _ _) | exact (rfl : _ = AV.emp) | exact (rfl : _ = AV.bysx _) | exact (rfl : _ = AV.slsx _ _) | exact (rfl : _ = AV.mp _) | exact (rfl : _ = AV.fnc _ _ _) | exact (rfl : _ = AV.pby _ _) | exact (rfl : _ = AV.ifc _ _)))) (by decide))); refine DC.awn_b ?_; refine im ?_; refine DC.awn_b0 ?_; refine DC.awn_nil ?_; refine DC.awc_cons (fun Rx K1 hK1x => ?_); refine za4 rfl rfl rfl aa mc dc au au (fun oN hoN => ?_); refine bb ?_; (refine hK1x _ _ (by first | exact Or.inl (by decide +kernel) | (refine Or.inr ?_; (try dsimp only); first | exact aa | exact ⟨aa, aa⟩ | exact ⟨aa, aa, aa⟩)) ?_; clear hK1x K1 Rx); refine DC.awc_cons0 (fun Rx K1 hK1x => ?_); refine jc ?_; (refine hK1x _ (by first | exact Or.inl (by decide +kernel) | (refine Or.inr ?_; (try dsimp only); first | exact aa | exact ⟨aa, aa⟩ | exact ⟨aa, aa, aa⟩)) ?_; clear hK1x K1 Rx); refine DC.awc_nil ?_; rotate_left; refine di ?_; rotate_left)
  · have ho : s.out m = { s with send := s.send ++ [{ m with from_ := (s.c.me : Int), view := s.c.view }] } := if_neg hc
    rw [ho]; have e1 : s.send.length + 1 = (s.send ++ [{ m with from_ := (s.c.me : Int), view := s.c.view }]).length := by simp
    refine ⟨.inr rfl, _, _, _, Ent.refl _ _, ret0 rfl, rfl, { F with on := oN }, ⟨⟨⟨off, xs, aa, aa, hx1, hx2⟩, ⟨eg, aa, hg2⟩, ⟨eh, aa, hh2⟩⟩, ?_, ?_, ?_, ?_⟩, ⟨rfl, rfl, fun p hp => ?_, fun p y hp hF => ?_⟩⟩
    · rw [<- e1]; exact aa
    · exact aa
    · rw [List.flatMap_append]; exact aa
    · constructor <;> exact ed
    · (simp only [Ob.l, Ob.c, List.mem_cons, List.not_mem_nil, or_false] at hp ⊢; (repeat' (first | (refine Or.elim hp (fun hp => ?_) (fun hp => ?_)))) <;> first | exact Or.inl (Or.inl hp) | exact Or.inl (Or.inr (Or.inl hp)) | exact Or.inl (Or.inr (Or.inr (Or.inl hp))) | exact Or.inl (Or.inr (Or.inr (Or.inr (Or.inl hp)))) | exact Or.inl (Or.inr (Or.inr (Or.inr (Or.inr (Or.inl hp))))) | exact Or.inl (Or.inr (Or.inr (Or.inr (Or.inr (Or.inr (Or.inl hp)))))) | exact Or.inl (Or.inr (Or.inr (Or.inr (Or.inr (Or.inr (Or.inr hp)))))) | (refine Or.inr ?_; rw [hp]; exact ka))
    · (obtain ⟨f1, f2, f3, f4, f5, f6, f7⟩ := Ob.nel hF; exact aa)
  · have ho : s.out m = s := if_pos (Decidable.of_not_not hc)
    rw [ho]; exact ⟨.inr rfl, _, _, _, Ent.gc (H0 := H) mq, ret0 rfl, rfl, F, ⟨⟨⟨off, xs, hco, hw, hx1, hx2⟩, ⟨eg, hg, hg2⟩, ⟨eh, hh, hh2⟩⟩, hst, hsv, hsn, ⟨n1, n2, n3, n4, n5, n6, n7, n8, n9, n10, n11, n12, n13, n14, n15, n16, n17, n18, n19, n20, n21⟩⟩, Turn.refl _ _ _⟩
theorem aci (H : AHeap) (F : Ob) (s : Ag.St) (k v : Nat) (l : List En) (h : SAt H F s) (hf : CFine s.c) (hl : s.save.length <= 100000) (hk : k < 100) (hv : v < 2 ^ 64) (hL : LF l) :
    ACalls Try.prog 78 [.ptr F.o 0, .ptr F.os 0, uI k, uI v, lsE l] H fun r H' => r = .tup [] /\ ∃ F', SAt H' F' (s.put k v l) /\ Turn F.l H F F' H' := by
  obtain ⟨⟨⟨off, xs, hco, hw, hx1, hx2⟩, ⟨eg, hg, hg2⟩, ⟨eh, hh, hh2⟩⟩, hst, hsv, hsn, nd⟩ := h; obtain ⟨n1, n2, n3, n4, n5, n6, n7, n8, n9, n10, n11, n12, n13, n14, n15, n16, n17, n18, n19, n20, n21⟩ := nd; have f1 := hf.me; have f2 := hf.n; have hR := fun H hc => anr H F.o s.c F.og F.oh (.vw F.ow 3 off s.c.wait.length) ⟨k, v, 0, 0, l⟩ hc (by omega) (by omega) hk hv (show (0 : Nat) < 2 ^ 64 by decide) (show (0 : Nat) < 2 ^ 62 by decide) hL
  have hlR : (recB s.c.me s.c.n ⟨k, v, 0, 0, l⟩).length <= 100000 := by
    have := adj hL; have := ux [s.c.me, s.c.n, k, v, 0, 0, l.length]; simp only [recB, List.length_append]; simp only [List.length_cons, List.length_nil] at this; omega
  have hsl : (s.save.map fun x => AV.bys (recB s.c.me s.c.n x)).length = s.save.length * 1 := by rw [List.length_map, Nat.mul_one]
  unfold bo at hco hR; refine aql Try.func78 rfl (by decide) ?_
  focus (refine aor [90] dz bg bg ?_; refine gz ?_; refine gz ?_; refine jd ?_; (apply j8 bg; (· exact fc rfl aa rfl)); refine gz ?_; refine r9 ?_; refine r9 ?_; (apply jl; · (intro H1; exact ce (v := .sls _ _) rfl)); (apply j8 bg; (· exact bw ah (hR _ aa))); refine re ?_; refine lu ?_; refine jd ?_; refine lq ?_; refine mr ?_; refine kz (fun Rx K1 hK1x => ?_); refine za4 rfl rfl rfl aa mc dc au au (fun oN hoN => ?_); refine bb ?_; (refine hK1x _ _ ?_; clear hK1x K1 Rx); refine lw (fun Rx K1 hK1x => ?_); refine jc ?_; (refine hK1x _ ?_; clear hK1x K1 Rx); refine mi ?_)
  have e1 : (s.put k v l).save.length = s.save.length + 1 := by simp [Ag.St.put]
  have e2 : ((s.put k v l).save.map fun x => AV.bys (recB s.c.me s.c.n x)) = (s.save.map fun x => AV.bys (recB s.c.me s.c.n x)) ++ [AV.bys (recB s.c.me s.c.n ⟨k, v, 0, 0, l⟩)] := by simp [Ag.St.put]
  refine ⟨.inr rfl, _, _, _, Ent.refl _ _, ret0 rfl, rfl, { F with ov := oN }, ⟨⟨⟨off, xs, aa, aa, hx1, hx2⟩, ⟨eg, aa, hg2⟩, ⟨eh, aa, hh2⟩⟩, ?_, ?_, ?_, ?_⟩, ⟨rfl, rfl, fun p hp => ?_, fun p y hp hF => ?_⟩⟩
  · rw [e1]; exact aa
  · show _ = some (AO.cel ((s.put k v l).save.map fun x => AV.bys (recB s.c.me s.c.n x)))
    rw [e2]; exact aa
  · exact aa
  · constructor <;> exact ed
  · (simp only [Ob.l, Ob.c, List.mem_cons, List.not_mem_nil, or_false] at hp ⊢; (repeat' (first | (refine Or.elim hp (fun hp => ?_) (fun hp => ?_)))) <;> first | exact Or.inl (Or.inl hp) | exact Or.inl (Or.inr (Or.inl hp)) | exact Or.inl (Or.inr (Or.inr (Or.inl hp))) | exact Or.inl (Or.inr (Or.inr (Or.inr (Or.inl hp)))) | exact Or.inl (Or.inr (Or.inr (Or.inr (Or.inr (Or.inl hp))))) | exact Or.inl (Or.inr (Or.inr (Or.inr (Or.inr (Or.inr (Or.inl hp)))))) | exact Or.inl (Or.inr (Or.inr (Or.inr (Or.inr (Or.inr (Or.inr hp)))))) | (refine Or.inr ?_; rw [hp]; exact ka))
  · (obtain ⟨f1, f2, f3, f4, f5, f6, f7⟩ := Ob.nel hF; exact aa)
theorem aec (H : AHeap) (o : Nat) (x0 x1 x2 x3 x4 x5 x6 x7 x8 x9 x10 : AV) (h : H o = some (.cel [x0, x1, x2, x3, x4, x5, x6, x7, x8, x9, x10])) :
    ACalls Try.prog 31 [.ptr o 0] H fun r H' => r = .tup [] /\ ∃ og oh, H og = none /\ H oh = none /\ og ≠ oh /\ H' og = some (MI.ao .i64 []) /\ H' oh = some (MI.ao .i64 []) /\ H' o = some (.cel [x0, x1, x2, x3, x4, x5, bB false, mI 0, .mp og, .mp oh, x10]) /\ ∀ p y, p ≠ o -> H p = some y -> H' p = some y := by
  refine ej Try.func31 rfl (by decide) ?_
  focus (refine dg ?_; refine ue ?_; refine gv ?_; refine iw ?_; refine iq ?_; refine aq ?_; refine fv ?_; refine cu ?_; refine uc rfl (fun oN hoN => ?_); refine uc rfl (fun oN hoN => ?_); refine iw ?_; refine gv ?_; refine iw ?_; refine iq ?_; refine bb ?_)
  exact ⟨.inr rfl, _, _, _, Ent.refl _ _, ret0 rfl, rfl, _, oN, by exact ka, by exact ka, by exact ed, aa, aa, aa, fun p y hp hy => aa⟩
structure NdC (F : Ob) : Prop where
  o_og : F.o ≠ F.og
  o_oh : F.o ≠ F.oh
  o_ow : F.o ≠ F.ow
  og_oh : F.og ≠ F.oh
  og_ow : F.og ≠ F.ow
  oh_ow : F.oh ≠ F.ow
structure TurnC (H : AHeap) (F F' : Ob) (H' : AHeap) : Prop where
  o : F'.o = F.o
  os : F'.os = F.os
  ov : F'.ov = F.ov
  on : F'.on = F.on
  new : ∀ p ∈ F'.c, p ∈ F.c \/ H p = none
  fr : ∀ p y, H p = some y -> p ∉ F.c -> H' p = some y
  nd : NdC F'
theorem SAt.turn {H H' : AHeap} {F F' : Ob} {s : Ag.St} {c : Ag.Co} (h : SAt H F s) (hc : CAt H' F' c) (t : TurnC H F F' H') (hm : c.me = s.c.me) (hn : c.n = s.c.n) : SAt H' F' { s with c := c } /\ Turn F.l H F F' H' := by
  obtain ⟨n1, n2, n3, n4, n5, n6, n7, n8, n9, n10, n11, n12, n13, n14, n15, n16, n17, n18, n19, n20, n21⟩ := h.nd
  have hs : ∀ q ∈ [F.os, F.ov, F.on], q ∉ F.c := by
    intro q hq; simp only [List.mem_cons, List.not_mem_nil, or_false, Ob.c, not_or] at *; rcases hq with rfl | rfl | rfl
    · exact ⟨n4.symm, n9.symm, n13.symm, n16.symm⟩
    · exact ⟨n5.symm, n10.symm, n14.symm, n17.symm⟩
    · exact ⟨n6.symm, n11.symm, n15.symm, n18.symm⟩
  have hne : ∀ p ∈ F'.c, ∀ q ∈ [F.os, F.ov, F.on], ∀ y, H q = some y -> p ≠ q := by
    intro p hp q hq y hy e; subst e; rcases t.new p hp with h | h
    · exact hs p hq h
    · rw [hy] at h; cases h
  have m1 : F.os ∈ [F.os, F.ov, F.on] := by simp
  have m2 : F.ov ∈ [F.os, F.ov, F.on] := by simp
  have m3 : F.on ∈ [F.os, F.ov, F.on] := by simp
  have k1 : F'.o ∈ F'.c := by simp [Ob.c]
  have k2 : F'.og ∈ F'.c := by simp [Ob.c]
  have k3 : F'.oh ∈ F'.c := by simp [Ob.c]
  have k4 : F'.ow ∈ F'.c := by simp [Ob.c]
  refine ⟨⟨hc, ?_, ?_, ?_, ?_⟩, ⟨t.o, t.os, fun p hp => ?_, fun p y hp hF => ?_⟩⟩
  · rw [t.os, t.ov, t.on]; exact t.fr _ _ h.st (hs _ m1)
  · show H' F'.ov = some (.cel (s.save.map fun x => .bys (recB c.me c.n x)))
    rw [t.ov, hm, hn]; exact t.fr _ _ h.sv (hs _ m2)
  · rw [t.on]; exact t.fr _ _ h.sn (hs _ m3)
  · have d := t.nd
    refine ⟨d.o_og, d.o_oh, d.o_ow, ?_, ?_, ?_, d.og_oh, d.og_ow, ?_, ?_, ?_, d.oh_ow, ?_, ?_, ?_, ?_, ?_, ?_, ?_, ?_, ?_⟩ <;> (try rw [t.os]) <;> (try rw [t.ov]) <;> (try rw [t.on])
    · exact hne _ k1 _ m1 _ h.st
    · exact hne _ k1 _ m2 _ h.sv
    · exact hne _ k1 _ m3 _ h.sn
    · exact hne _ k2 _ m1 _ h.st
    · exact hne _ k2 _ m2 _ h.sv
    · exact hne _ k2 _ m3 _ h.sn
    · exact hne _ k3 _ m1 _ h.st
    · exact hne _ k3 _ m2 _ h.sv
    · exact hne _ k3 _ m3 _ h.sn
    · exact hne _ k4 _ m1 _ h.st
    · exact hne _ k4 _ m2 _ h.sv
    · exact hne _ k4 _ m3 _ h.sn
    · exact n19
    · exact n20
    · exact n21
  · simp only [Ob.l, List.mem_cons, List.not_mem_nil, or_false] at hp
    have key : p ∈ F'.c -> p ∈ F.l \/ H p = none := fun h => (t.new p h).imp (fun h => Ob.cl h) id
    rcases hp with h | h | h | h | h | h | h
    · exact key (by simp [Ob.c, h])
    · exact key (by simp [Ob.c, h])
    · exact key (by simp [Ob.c, h])
    · exact key (by simp [Ob.c, h])
    · left; rw [h, t.os]; simp [Ob.l]
    · left; rw [h, t.ov]; simp [Ob.l]
    · left; rw [h, t.on]; simp [Ob.l]
  · exact t.fr p y hp fun h => hF (Ob.cl h)
theorem GotM.nil {c : Ag.Co} (h : ∀ q, c.got q = none) : GotM [] c := ⟨fun k => by simp [MI.get, h], by
  show 0 = _
  unfold Ag.Co.size; rw [List.countP_eq_zero.2]; intro a _; rw [h]; simp⟩
theorem HeldM.nil {c : Ag.Co} (h : ∀ q, c.held q = none) : HeldM [] c := ⟨fun k => by simp [MI.get, h], List.Pairwise.nil⟩
theorem CFine.promise {c : Ag.Co} (h : CFine c) {v : Nat} (hv : v <= 1099511627776) : CFine ({ c with view := v } : Ag.Co).follow :=
  ⟨h.me, h.n, hv, h.last, h.list, h.agr, h.wait, Nat.zero_le _, fun q x hx => (by cases hx), fun q x hx => (by cases hx)⟩
theorem ag8 (H : AHeap) (F : Ob) (s : Ag.St) (v : Nat) (h : SAt H F s) (hf : CFine s.c) (hl : s.save.length <= 100000) (hv : v <= Ag.mostView) :
    ACalls Try.prog 52 [.ptr F.o 0, .ptr F.os 0, uI v] H fun r H' => r = .tup [] /\ ∃ F', SAt H' F' (s.promise v) /\ Turn F.l H F F' H' := by
  have h0 := h; obtain ⟨⟨⟨off, xs, hco, hw, hx1, hx2⟩, ⟨eg, hg, hg2⟩, ⟨eh, hh, hh2⟩⟩, hst, hsv, hsn, nd⟩ := h; obtain ⟨n1, n2, n3, n4, n5, n6, n7, n8, n9, n10, n11, n12, n13, n14, n15, n16, n17, n18, n19, n20, n21⟩ := nd; unfold bo at hco; unfold Ag.mostView at hv; refine lz Try.func52 rfl (by decide) ?_
  focus (refine dg ?_; refine an ?_; refine iw ?_; refine gv ?_; refine aq ?_; refine dg ?_; (refine zc ah (aec _ _ _ _ _ _ _ _ _ _ _ _ _ aa) ?_; rintro r H' ⟨rfl, og, oh, hog, hoh, hne, q1, q2, q3, q4⟩); refine aq ?_)
  have e0 : ∀ p y, p ≠ F.o -> H p = some y -> H' p = some y := fun p y hp hy => q4 p y hp (arl hp hy)
  have hog2 : H og = none := arm hog; have hoh2 : H oh = none := arm hoh; have m1 : og ≠ F.o := by exact ed
  have m2 : oh ≠ F.o := by exact ed
  have m3 : og ≠ F.ow := by exact ed
  have m4 : oh ≠ F.ow := by exact ed
  have t1 : TurnC H F { F with og := og, oh := oh } H' := by
    refine ⟨rfl, rfl, rfl, rfl, fun p hp => ?_, fun p y hy hF => e0 p y (fun e => hF (by simp [Ob.c, e])) hy, ⟨m1.symm, m2.symm, n3, hne, m3, m4⟩⟩
    simp only [Ob.c, List.mem_cons, List.not_mem_nil, or_false] at hp ⊢; rcases hp with h | h | h | h
    · exact .inl (.inl h)
    · exact .inr (by rw [h]; exact hog2)
    · exact .inr (by rw [h]; exact hoh2)
    · exact .inl (.inr (.inr (.inr h)))
  have c1 : CAt H' { F with og := og, oh := oh } ({ s.c with view := v } : Ag.Co).follow := ⟨⟨off, xs, q3, e0 _ _ n3.symm hw, hx1, hx2⟩, ⟨[], q1, GotM.nil fun _ => rfl⟩, ⟨[], q2, HeldM.nil fun _ => rfl⟩⟩
  obtain ⟨a1, a2⟩ := h0.turn c1 t1 rfl rfl; have hS := aci H' { F with og := og, oh := oh } _ 1 v [] a1 (hf.promise hv) hl (by decide) (by omega) ⟨by simp, by simp⟩
  clear a1 c1 q1 q2 q3 q4 e0 t1
  focus (refine fv ?_; refine cu ?_; refine an ?_; (refine zc ah (hS) ?_; rintro r H' ⟨rfl, F2, b1, b2⟩); refine bb ?_)
  exact ⟨.inr rfl, _, _, _, Ent.refl _ _, ret0 rfl, rfl, F2, b1, a2.trans b2⟩
end Go.Proofs.Ytbciofnejefkiaa
namespace Go.Proofs.Ytbciofnejefkiaa
open Go Go.Am Go.Proofs
theorem SAt.fr {H H' : AHeap} {F : Ob} {s : Ag.St} (h : SAt H F s) (hf : ∀ p ∈ F.l, ∀ y, H p = some y -> H' p = some y) : SAt H' F s := by
  obtain ⟨⟨⟨off, xs, hco, hw, hx1, hx2⟩, ⟨eg, hg, hg2⟩, ⟨eh, hh, hh2⟩⟩, hst, hsv, hsn, nd⟩ := h; exact ⟨⟨⟨off, xs, hf _ (by simp [Ob.l]) _ hco, hf _ (by simp [Ob.l]) _ hw, hx1, hx2⟩, ⟨eg, hf _ (by simp [Ob.l]) _ hg, hg2⟩, ⟨eh, hf _ (by simp [Ob.l]) _ hh, hh2⟩⟩, hf _ (by simp [Ob.l]) _ hst, hf _ (by simp [Ob.l]) _ hsv, hf _ (by simp [Ob.l]) _ hsn, nd⟩
theorem SAt.set {H : AHeap} {F : Ob} {s : Ag.St} (h : SAt H F s) {o : Nat} {x : AO} (ho : o ∉ F.l) : SAt (H.set o x) F s :=
  h.fr fun p hp y hy => arl (fun e => ho (e ▸ hp)) hy
theorem Turn.set {L : List Nat} {H H1 : AHeap} {F F' : Ob} (t : Turn L H F F' H1) {o : Nat} {x : AO} (ho : H o = none) : Turn L H F F' (H1.set o x) :=
  ⟨t.o, t.os, t.new, fun p y hp hF => arl (fun e => by rw [e, ho] at hp; cases hp) (t.fr p y hp hF)⟩
theorem Turn.set1 {L : List Nat} {H H1 : AHeap} {F F' : Ob} (t : Turn L H F F' H1) {o : Nat} {x : AO} (ho : H1 o = none) : Turn L H F F' (H1.set o x) :=
  ⟨t.o, t.os, t.new, fun p y hp hF => arl (fun e => by have := t.fr p y hp hF; rw [e, ho] at this; cases this) (t.fr p y hp hF)⟩
theorem Turn.keep {H H' : AHeap} {F F' : Ob} (t : Turn F.l H F F' H') {o : Nat} {x : AO} (hx : H o = some x) (ho : o ∉ F.l) : H' o = some x /\ o ∉ F'.l :=
  ⟨t.fr o x hx ho, fun h => by rcases t.new o h with h | h; exact ho h; rw [hx] at h; cases h⟩
theorem SAt.notin {H : AHeap} {F : Ob} {s : Ag.St} (h : SAt H F s) {o : Nat} (ho : H o = none) : o ∉ F.l := fun hm => by
  obtain ⟨⟨⟨off, xs, hco, hw, hx1, hx2⟩, ⟨eg, hg, hg2⟩, ⟨eh, hh, hh2⟩⟩, hst, hsv, hsn, nd⟩ := h; simp only [Ob.l, List.mem_cons, List.not_mem_nil, or_false] at hm; rcases hm with e | e | e | e | e | e | e <;> rw [e] at ho <;> simp_all
def tellK (s : Ag.St) (m : Mg) (k : Nat) : Ag.St := (List.range k).foldl (fun (s : Ag.St) (to : Nat) => s.out { m with to := (to : Int) }) s
theorem ahn (s : Ag.St) (m : Mg) (k : Nat) : tellK s m (k + 1) = (tellK s m k).out { m with to := (k : Int) } := by
  unfold tellK; rw [List.range_succ, List.foldl_append]; rfl
theorem aa2 (s : Ag.St) (m : Mg) : (s.out m).c = s.c /\ (s.out m).send.length <= s.send.length + 1 /\ (s.out m).save = s.save := by
  unfold Ag.St.out; split
  · exact ⟨rfl, by omega, rfl⟩
  · exact ⟨rfl, by rw [List.length_append, List.length_singleton]; exact Nat.le_refl _, rfl⟩
theorem yw (s : Ag.St) (m : Mg) : ∀ (k : Nat), (tellK s m k).c = s.c /\ (tellK s m k).send.length <= s.send.length + k /\ (tellK s m k).save = s.save
  | 0 => ⟨rfl, Nat.le_refl _, rfl⟩
  | k + 1 => by
    obtain ⟨h1, h2, h3⟩ := yw s m k; obtain ⟨k1, k2, k3⟩ := aa2 (tellK s m k) { m with to := (k : Int) }
    rw [ahn]; exact ⟨k1.trans h1, by omega, k3.trans h3⟩
theorem amz (H : AHeap) (F : Ob) (s : Ag.St) (m : Mg) (h : SAt H F s) (hf : CFine s.c) (hl : s.send.length <= 10000) (hm : LF m.ents) :
    ACalls Try.prog 63 [.ptr F.o 0, .ptr F.os 0, .agg m.cells] H fun r H' => r = .tup [] /\ ∃ F', SAt H' F' (s.tell m) /\ Turn F.l H F F' H' := by
  have h0 := h; obtain ⟨⟨⟨off, xs, hco, hw, hx1, hx2⟩, ⟨eg, hg, hg2⟩, ⟨eh, hh, hh2⟩⟩, hst, hsv, hsn, nd⟩ := h; have f2 := hf.n; have hml := hm.len; have hcp := fun H => (pg H m.ents (by omega) fun e he => by have := (hm.ok e he).2; omega).seal_cel (i8 (sz := 3) (fun _ => rfl) m.ents)
  unfold bo at hco; refine lz Try.func63 rfl (by decide) ?_
  focus (refine az ?_; refine zb1 rfl rfl rfl (fun oN hoN => ?_); refine il ?_; refine bl ?_; refine ig ?_)
  have hom : oN ∉ F.l := h0.notin hoN; refine cv (fun mm R' H2 => ∃ (i : Nat) (F' : Ob) (t : Int), SAt H2 F' (tellK s m i) /\ Turn F.l H F F' H2 /\ oN ∉ F'.l /\ H2 oN = some (.cel ({ m with to := t } : Mg).cells) /\ R' = [(0, .ptr F.o 0), (1, .ptr F.os 0), (5, .ptr oN 0), (10, mI (s.c.n : Int)), (11, .raw (.int .i64 (i : Int)))] /\ i + mm = s.c.n) ?_ ?_
  · exact ⟨s.c.n, _, _, ba, 0, F, m.to, h0.set hom, (Turn.refl _ _ _).set hoN, hom, aa, rfl, by omega⟩
  have hoM := hoN; generalize hqq : oN = oM at *; clear hqq oN hst hsv hsn hg hh hw hco; rintro mm R0 H2 ⟨i, F', t, q1, q2, q3, q4, rfl, hi⟩; obtain ⟨k1, k2, k3⟩ := yw s m i; have ks := ahn s m i; unfold Mg.cells at q4; by_cases hlt : i < s.c.n
  · focus (refine br ?_; refine ax rfl (fun hc => ?_) (fun hc => ?_); refine ct ?_; refine an ?_; refine dk ?_; refine an ?_; refine iu ?_; refine gv ?_; refine il ?_; refine iu ?_; refine ma ?_; (refine zc ah (hcp _) ?_; rintro r H' ⟨rfl, rfl⟩); refine iu ?_; refine iq ?_; refine aq ?_; rotate_left; exact absurd hc aj)
    have q5 : SAt _ F' (tellK s m i) := (q1.set (x := .cel ({ m with to := (i : Int) } : Mg).cells) q3)
    have hS := qo _ F' (tellK s m i) { m with to := (i : Int) } q5 (by rw [k1]; exact hf) (by omega)
    rw [q2.o, q2.os] at hS; clear q5
    focus (refine fv ?_; refine cu ?_; refine pi ?_; (refine zc ah (hS) ?_; rintro r H' ⟨rfl, F2, b1, b2⟩); refine bb ?_; refine dl ?_)
    obtain ⟨c1, c2⟩ := b2.keep (arn _ _ _) q3; exact ⟨mm - 1, _, _, by omega, ba, i + 1, F2, (i : Int), by rw [ks]; exact b1, (q2.set hoM).trans b2, c2, c1, rfl, by omega⟩
  obtain rfl : i = s.c.n := by omega
  focus (refine br ?_; refine jm ?_; intro hc; refine qw ?_)
  exact ⟨.inr rfl, _, _, _, Ent.refl _ _, ret0 rfl, rfl, F', q1, q2⟩
def layK (s : Ag.St) (k : Nat) : Ag.St := (List.range k).foldl (fun (s : Ag.St) (to : Nat) => s.out (Ag.layM s.c to)) s
theorem acz (s : Ag.St) : ∀ (k : Nat), (layK s k).c = s.c /\ (layK s k).send.length <= s.send.length + k /\ (layK s k).save = s.save /\ layK s (k + 1) = (layK s k).out (Ag.layM s.c k)
  | 0 => ⟨rfl, Nat.le_refl _, rfl, rfl⟩
  | k + 1 => by
    obtain ⟨h1, h2, h3, h4⟩ := acz s k; obtain ⟨k1, k2, k3⟩ := aa2 (layK s k) (Ag.layM s.c k)
    have h5 : layK s (k + 1 + 1) = (layK s (k + 1)).out (Ag.layM (layK s (k + 1)).c (k + 1)) := by
      unfold layK; rw [List.range_succ, List.foldl_append]; rfl
    have h6 : (layK s (k + 1)).c = s.c := by rw [h4, k1, h1]
    exact ⟨h6, by rw [h4]; omega, by rw [h4, k3, h3], by rw [h5, h6]⟩
theorem adt (H : AHeap) (F : Ob) (s : Ag.St) (h : SAt H F s) (hf : CFine s.c) (hl : s.send.length <= 10000) :
    ACalls Try.prog 66 [.ptr F.o 0, .ptr F.os 0] H fun r H' => r = .tup [] /\ ∃ F', SAt H' F' s.lay /\ Turn F.l H F F' H' := by
  have h0 := h; obtain ⟨⟨⟨off, xs, hco, hw, hx1, hx2⟩, ⟨eg, hg, hg2⟩, ⟨eh, hh, hh2⟩⟩, hst, hsv, hsn, nd⟩ := h; have f2 := hf.n; have f3 := hf.agr; have hml := hf.list.len; have hcp := fun H => (pg H s.c.list (by omega) fun e he => by have := (hf.list.ok e he).2; omega).seal_cel (i8 (sz := 3) (fun _ => rfl) s.c.list)
  unfold bo at hco; refine gm Try.func66 rfl (by decide) ?_
  focus (refine az ?_; refine bl ?_; refine ig ?_)
  refine cv (fun mm R' H2 => ∃ (i : Nat) (F' : Ob), SAt H2 F' (layK s i) /\ Turn F.l H F F' H2 /\ R' = [(0, .ptr F.o 0), (1, .ptr F.os 0), (11, mI (s.c.n : Int)), (12, .raw (.int .i64 (i : Int)))] /\ i + mm = s.c.n) ?_ ?_
  · exact ⟨s.c.n, _, _, ba, 0, F, h0, Turn.refl _ _ _, rfl, by omega⟩
  clear hst hsv hsn hg hh hw hco hx1 hx2 xs off h0 nd hg2 hh2; rintro mm R0 H2 ⟨i, F', q1, q2, rfl, hi⟩; obtain ⟨k1, k2, k3, ks⟩ := acz s i; have p1 := q1; obtain ⟨⟨⟨off, xs, hco, hw, hx1, hx2⟩, ⟨eg, hg, hg2⟩, ⟨eh, hh, hh2⟩⟩, hst, hsv, hsn, nd⟩ := p1; have p2 := q2; have d1 := nd.o_oh; clear nd hst hsv hsn hg hg2 hw hx1 hx2 xs; rw [k1] at hco; unfold bo at hco; rw [q2.o] at hco d1; by_cases hlt : i < s.c.n
  · have hheld := hh2.get (i : Int)
    rw [if_pos (by omega), Int.toNat_natCast, k1] at hheld
    cases hq : s.c.held i with
    | none =>
      rw [hq, Option.map_none] at hheld; have v1 : (eh.get (i : Int)).getD (.raw (.int .u64 0)) = .raw (.int .u64 0) := by rw [hheld]; rfl
      have v2 : (eh.get (i : Int)).isSome = false := by rw [hheld]; rfl
      focus (refine br ?_; refine ax rfl (fun hc => ?_) (fun hc => ?_); refine ct ?_; refine an ?_; refine bc ?_; refine bf ?_; refine DC.aw_drawp (fun H' => H' F.o = some (.cel [mI s.c.me, mI s.c.n, uI s.c.view, uI s.c.last, lsE s.c.list, mI s.c.agreed, bB s.c.lead, mI s.c.quiet, .mp F'.og, .mp F'.oh, .vw F'.ow 3 off s.c.wait.length])) (by first | exact aa) dz bg bg ?_; refine fa ?_; refine dx ?_; refine im ?_; refine e8 ?_; (apply DC.awn_s; · (intros; exact vb rfl)); (apply DC.awn_s; · (intros; exact fu rfl (by omega))); refine dx ?_; refine im ?_; refine e8 ?_; (apply DC.awn_s; · (intros; exact fu rfl (by omega))); refine ac8 ?_; refine DC.awn_b ?_; refine DC.awn_b0 ?_; refine DC.awn_nil ?_; refine DC.awc_cons (fun Rx K1 hK1x => ?_); refine cz rfl rfl rfl (fun oN hoN => ?_); refine bb ?_; (refine hK1x _ _ (by first | exact Or.inl (by decide +kernel) | (refine Or.inr ?_; (try dsimp only); first | exact aa)) ?_; clear hK1x K1 Rx); refine DC.awc_cons0 (fun Rx K1 hK1x => ?_); refine jx ?_; refine bb ?_; (refine hK1x _ (by first | exact Or.inl (by decide +kernel) | (refine Or.inr ?_; (try dsimp only); first | exact aa)) ?_; clear hK1x K1 Rx); refine DC.awc_nil ?_; refine gj ?_; refine bq ?_; refine bl ?_; refine an ?_; refine ro ?_; refine jj ?_; refine dq ?_; refine dk ?_; refine an ?_; refine ea ?_; refine an ?_; refine dp ?_; refine dp ?_; refine bu ?_; refine gy ?_; refine ca ?_; refine bl ?_; (refine zc ah (hcp _) ?_; rintro r H' ⟨rfl, rfl⟩); refine iu ?_; refine iq ?_; refine iu ?_; refine iq ?_; refine aq ?_; rotate_left; exact absurd hc aj)
      have hL : Ag.layM s.c i = ⟨4, 0, (i : Int), 0, 0, s.c.list.length, s.c.agreed, s.c.list, []⟩ := by simp [Ag.layM, Ag.msg0, hq]
      have hS : ∀ x, ACalls Try.prog 40 [.ptr F.o 0, .ptr F.os 0, .agg [mI 4, mI 0, mI (i : Int), uI 0, uI 0, uI s.c.list.length, uI s.c.agreed, lsE s.c.list, .raw (.slice none 0 0)]] (H2.set oN (.cel x)) fun r H' => r = .tup [] /\ ∃ F2, SAt H' F2 ((layK s i).out (Ag.layM s.c i)) /\ Turn F'.l (H2.set oN (.cel x)) F' F2 H' := fun x => by
        have h1 := qo (H2.set oN (.cel x)) F' (layK s i) (Ag.layM s.c i) (q1.set (q1.notin hoN)) (by rw [k1]; exact hf) (by omega)
        rw [q2.o, q2.os] at h1; refine h1.weak (WL.cons (W.of rfl) (WL.cons (W.of rfl) (WL.cons ?_ WL.nil))); rw [hL]; exact qb (WL.cons (W.of rfl) (WL.cons (W.of rfl) (WL.cons (W.of rfl) (WL.cons (W.of rfl) (WL.cons (W.of rfl) (WL.cons (W.of rfl) (WL.cons (W.of rfl) (WL.cons (W.of rfl) (WL.cons (W.nilb rfl) WL.nil)))))))))
      focus (refine fv ?_; refine cu ?_; refine pi ?_; (refine zc ah (hS _) ?_; rintro r H' ⟨rfl, F2, b1, b2⟩); refine bb ?_; refine dl ?_)
      exact ⟨mm - 1, _, _, by omega, ba, i + 1, F2, by rw [ks]; exact b1, (q2.set1 hoN).trans b2, rfl, by omega⟩
    | some hd =>
      rw [hq, Option.map_some] at hheld; have v1 : (eh.get (i : Int)).getD (.raw (.int .u64 0)) = .raw (.int .u64 (hd : Int)) := by rw [hheld]; rfl
      have v2 : (eh.get (i : Int)).isSome = true := by rw [hheld]; rfl
      focus (refine br ?_; refine ax rfl (fun hc => ?_) (fun hc => ?_); refine ct ?_; refine an ?_; refine bc ?_; refine bf ?_; refine DC.aw_drawp (fun H' => H' F.o = some (.cel [mI s.c.me, mI s.c.n, uI s.c.view, uI s.c.last, lsE s.c.list, mI s.c.agreed, bB s.c.lead, mI s.c.quiet, .mp F'.og, .mp F'.oh, .vw F'.ow 3 off s.c.wait.length])) (by first | exact aa) dz bg bg ?_; refine fa ?_; refine dx ?_; refine im ?_; refine e8 ?_; (apply DC.awn_s; · (intros; exact vb rfl)); (apply DC.awn_s; · (intros; exact fu rfl (by omega))); refine dx ?_; refine im ?_; refine e8 ?_; (apply DC.awn_s; · (intros; exact fu rfl (by omega))); refine ac8 ?_; refine DC.awn_b ?_; refine DC.awn_b0 ?_; refine DC.awn_nil ?_; refine DC.awc_cons (fun Rx K1 hK1x => ?_); refine cz rfl rfl rfl (fun oN hoN => ?_); refine bb ?_; (refine hK1x _ _ (by first | exact Or.inl (by decide +kernel) | (refine Or.inr ?_; (try dsimp only); first | exact aa)) ?_; clear hK1x K1 Rx); refine DC.awc_cons0 (fun Rx K1 hK1x => ?_); refine jx ?_; refine bb ?_; (refine hK1x _ (by first | exact Or.inl (by decide +kernel) | (refine Or.inr ?_; (try dsimp only); first | exact aa)) ?_; clear hK1x K1 Rx); refine DC.awc_nil ?_; refine gj ?_; refine bq ?_; refine bl ?_; refine an ?_; refine ro ?_; refine jj ?_; refine dq ?_; refine dk ?_; refine an ?_; refine ea ?_; refine ep ?_; refine i9 ?_; refine j4 ?_; refine eo ?_; refine eu ?_; refine a0 ?_; refine ae rfl (fu rfl (by omega)) ?_; refine a0 ?_; refine mz ?_; refine cd ?_; refine aq ?_; refine ax rfl (fun hc => ?_) (fun hc => ?_); refine ca ?_; refine bl ?_; (refine zc ah (hcp _) ?_; rintro r H' ⟨rfl, rfl⟩); refine iu ?_; refine iq ?_; refine iu ?_; refine iq ?_; refine aq ?_; rotate_left; refine cy ?_; rotate_left; exact absurd hc aj)
      · have hc2 : hd < s.c.list.length := by omega
        have hL : Ag.layM s.c i = ⟨4, 0, (i : Int), 0, 0, s.c.list.length, s.c.agreed, s.c.list, []⟩ := by simp [Ag.layM, Ag.msg0, hq, hc2]
        have hS : ∀ x, ACalls Try.prog 40 [.ptr F.o 0, .ptr F.os 0, .agg [mI 4, mI 0, mI (i : Int), uI 0, uI 0, uI s.c.list.length, uI s.c.agreed, lsE s.c.list, .raw (.slice none 0 0)]] (H2.set oN (.cel x)) fun r H' => r = .tup [] /\ ∃ F2, SAt H' F2 ((layK s i).out (Ag.layM s.c i)) /\ Turn F'.l (H2.set oN (.cel x)) F' F2 H' := fun x => by
          have h1 := qo (H2.set oN (.cel x)) F' (layK s i) (Ag.layM s.c i) (q1.set (q1.notin hoN)) (by rw [k1]; exact hf) (by omega)
          rw [q2.o, q2.os] at h1; refine h1.weak (WL.cons (W.of rfl) (WL.cons (W.of rfl) (WL.cons ?_ WL.nil))); rw [hL]; exact qb (WL.cons (W.of rfl) (WL.cons (W.of rfl) (WL.cons (W.of rfl) (WL.cons (W.of rfl) (WL.cons (W.of rfl) (WL.cons (W.of rfl) (WL.cons (W.of rfl) (WL.cons (W.of rfl) (WL.cons (W.nilb rfl) WL.nil)))))))))
        focus (refine fv ?_; refine cu ?_; refine pi ?_; (refine zc ah (hS _) ?_; rintro r H' ⟨rfl, F2, b1, b2⟩); refine bb ?_; refine dl ?_)
        exact ⟨mm - 1, _, _, by omega, ba, i + 1, F2, by rw [ks]; exact b1, (q2.set1 hoN).trans b2, rfl, by omega⟩
      · have hc2 : ¬ hd < s.c.list.length := by omega
        have hL : Ag.layM s.c i = ⟨6, 0, (i : Int), 0, 0, s.c.list.length, s.c.agreed, [], []⟩ := by simp [Ag.layM, Ag.msg0, hq, hc2]
        have hS : ∀ x, ACalls Try.prog 40 [.ptr F.o 0, .ptr F.os 0, .agg [mI 6, mI 0, mI (i : Int), uI 0, uI 0, uI s.c.list.length, uI s.c.agreed, .raw (.slice none 0 0), .raw (.slice none 0 0)]] (H2.set oN (.cel x)) fun r H' => r = .tup [] /\ ∃ F2, SAt H' F2 ((layK s i).out (Ag.layM s.c i)) /\ Turn F'.l (H2.set oN (.cel x)) F' F2 H' := fun x => by
          have h1 := qo (H2.set oN (.cel x)) F' (layK s i) (Ag.layM s.c i) (q1.set (q1.notin hoN)) (by rw [k1]; exact hf) (by omega)
          rw [q2.o, q2.os] at h1; refine h1.weak (WL.cons (W.of rfl) (WL.cons (W.of rfl) (WL.cons ?_ WL.nil))); rw [hL]; exact qb (WL.cons (W.of rfl) (WL.cons (W.of rfl) (WL.cons (W.of rfl) (WL.cons (W.of rfl) (WL.cons (W.of rfl) (WL.cons (W.of rfl) (WL.cons (W.of rfl) (WL.cons (W.nils rfl) (WL.cons (W.nilb rfl) WL.nil)))))))))
        focus (refine fv ?_; refine cu ?_; refine pi ?_; (refine zc ah (hS _) ?_; rintro r H' ⟨rfl, F2, b1, b2⟩); refine bb ?_; refine dl ?_)
        exact ⟨mm - 1, _, _, by omega, ba, i + 1, F2, by rw [ks]; exact b1, (q2.set1 hoN).trans b2, rfl, by omega⟩
  obtain rfl : i = s.c.n := by omega
  focus (refine br ?_; refine jm ?_; intro hc; refine qw ?_)
  exact ⟨.inr rfl, _, _, _, Ent.refl _ _, ret0 rfl, rfl, F', q1, q2⟩
end Go.Proofs.Ytbciofnejefkiaa
namespace Go.Proofs.Ytbciofnejefkiaa
namespace Ag
structure MOK (g : Gh) (m : Mg) : Prop where
  from_ : 0 <= m.from_ /\ m.from_ < (g.n : Int)
  to : 0 <= m.to /\ m.to < (g.n : Int)
  ne : m.to ≠ m.from_
  kind : 1 <= m.kind /\ m.kind <= 6
  view : m.view <= mostView
  last : m.last <= m.view
  op : m.op <= 200
  commit : m.commit <= 200
  ents : LOK g.S m.ents
  body : m.body = []
  vote : m.kind = 3 -> VoteOK g m.from_.toNat m.view m.last m.ents
  lead : m.kind = 4 \/ m.kind = 6 -> m.from_ = ((m.view % g.n : Nat) : Int) /\ ∃ L, g.acc (m.view % g.n) m.view = some L /\ m.commit <= L.length /\ Comm g m.view (L.take m.commit)
  lays : m.kind = 4 -> ∃ L, g.acc (m.view % g.n) m.view = some L /\ m.ents <+: L /\ g.ini m.view <= m.ents.length
  hold : m.kind = 5 -> ∃ l, g.acc m.from_.toNat m.view = some l /\ m.op <= l.length
theorem MOK.le {g h : Gh} (a : Le g h) {m : Mg} (k : MOK g m) : MOK h m where
  from_ := by rw [a.n]; exact k.from_
  to := by rw [a.n]; exact k.to
  ne := k.ne
  kind := k.kind
  view := k.view
  last := k.last
  op := k.op
  commit := k.commit
  ents := k.ents.mono a.S
  body := k.body
  vote h := (k.vote h).le a
  lead h := by
    obtain ⟨h1, L, h2, h3, h4⟩ := k.lead h; obtain ⟨M, h5, h6⟩ := a.grow _ _ _ h2; exact ⟨by rw [a.n]; exact h1, M, by rw [a.n]; exact h5, Nat.le_trans h3 h6.length_le, by rw [qz h6 h3]; exact h4.le a⟩
  lays h := by
    obtain ⟨L, h2, h3, h4⟩ := k.lays h; obtain ⟨M, h5, h6⟩ := a.grow _ _ _ h2; exact ⟨M, by rw [a.n]; exact h5, h3.trans h6, by rw [a.ini _ _ h2]; exact h4⟩
  hold h := by
    obtain ⟨L, h2, h3⟩ := k.hold h; obtain ⟨M, h5, h6⟩ := a.grow _ _ _ h2; exact ⟨M, h5, Nat.le_trans h3 h6.length_le⟩
structure COK (g : Gh) (c : Co) : Prop where
  me : c.me < g.n
  n : c.n = g.n
  view : c.view = g.V c.me
  most : c.view <= mostView
  last : c.last <= c.view
  cur : g.acc c.me c.last = some c.list
  later : ∀ v, c.last < v -> g.acc c.me v = none
  agr : c.agreed <= c.list.length
  comm : Comm g c.last (c.list.take c.agreed)
  got : ∀ q x, c.got q = some x -> q < g.n /\ VoteOK g q c.view x.last x.list /\ c.view % g.n = c.me
  held : ∀ q h, c.held q = some h -> q < g.n /\ ∃ l, g.acc q c.view = some l /\ h <= l.length
  lead : c.lead = true -> c.view % g.n = c.me /\ c.last = c.view
  wait : ∀ e ∈ c.wait, EOK g.S e
  waitn : c.wait.length <= 200
theorem COK.le {g h : Gh} {r : Nat} (a : Le g h) (o : Only r g h) {c : Co} (hr : c.me ≠ r) (k : COK g c) : COK h c where
  me := by rw [a.n]; exact k.me
  n := k.n.trans a.n.symm
  view := by rw [(o.at_ _ hr).1]; exact k.view
  most := k.most
  last := k.last
  cur := by rw [(o.at_ _ hr).2]; exact k.cur
  later v hv := by rw [(o.at_ _ hr).2]; exact k.later v hv
  agr := k.agr
  comm := k.comm.le a
  got q x hx := by
    obtain ⟨h1, h2, h3⟩ := k.got q x hx; exact ⟨by rw [a.n]; exact h1, h2.le a, by rw [a.n]; exact h3⟩
  held q x hx := by
    obtain ⟨h1, l, h2, h3⟩ := k.held q x hx; obtain ⟨M, h5, h6⟩ := a.grow _ _ _ h2; exact ⟨by rw [a.n]; exact h1, M, h5, Nat.le_trans h3 h6.length_le⟩
  lead hl := by rw [a.n]; exact k.lead hl
  wait e he := (k.wait e he).mono a.S
  waitn := k.waitn
theorem COK.lok {g : Gh} (G : GOK g) {c : Co} (k : COK g c) : LOK g.S c.list := (G.acc _ k.me _ _ k.cur).2.1
def base (c : Co) : Co := { Co.new c.me c.n with view := c.view, last := c.last, list := c.list }
theorem COK.base {g : Gh} (G : GOK g) {c : Co} (k : COK g c) : COK g (base c) where
  me := k.me
  n := k.n
  view := k.view
  most := k.most
  last := k.last
  cur := k.cur
  later := k.later
  agr := Nat.zero_le _
  comm := by show Comm g c.last (c.list.take 0); exact Comm.nil G _
  got q x hx := by cases hx
  held q x hx := by cases hx
  lead hl := by cases hl
  wait e he := by cases he
  waitn := Nat.zero_le _
theorem s0 : ∀ (l k : List Rd) (c : Co), c.replay (l ++ k) = (c.replay l).bind fun d => d.replay k
  | [], k, c => rfl
  | x :: l, k, c => by
    simp only [List.cons_append, Co.replay]; split
    · cases c.apply x with
      | none => rfl
      | some d => exact s0 l k d
    · rfl
structure SOK (g0 : Gh) (r : Nat) (d0 : Co) (g : Gh) (s : St) : Prop where
  le : Le g0 g
  only : Only r g0 g
  gok : GOK g
  cok : COK g s.c
  me : s.c.me = r
  send : ∀ m ∈ s.send, MOK g m /\ m.from_ = (r : Int)
  disk : d0.replay s.save = some (base s.c)
  part : ∀ k, ∃ h c, Le g0 h /\ Only r g0 h /\ GOK h /\ COK h c /\ c.me = r /\ d0.replay (s.save.take k) = some (base c)
variable {g0 g : Gh} {r : Nat} {d0 : Co} {s : St}
theorem SOK.mem (h : SOK g0 r d0 g s) {c : Co} (hc : COK g c) (hb : base c = base s.c) : SOK g0 r d0 g { s with c := c } where
  le := h.le
  only := h.only
  gok := h.gok
  cok := hc
  me := (congrArg Co.me hb).trans h.me
  send := h.send
  disk := by rw [hb]; exact h.disk
  part := h.part
theorem SOK.put (h : SOK g0 r d0 g s) {g' : Gh} {c : Co} {x : Rd} (a : Le g g') (o : Only r g g') (G : GOK g') (hc : COK g' c) (hm : c.me = r) (hx : x.ok) (hb : (base s.c).apply x = some (base c)) :
    SOK g0 r d0 g' { s with c := c, save := s.save ++ [x] } := by
  have hd : d0.replay (s.save ++ [x]) = some (base c) := by
    rw [s0, h.disk]; simp only [Option.bind_some, Co.replay, hx, if_true, hb]
  refine ⟨h.le.trans a, h.only.trans o, G, hc, hm, fun m hm => ⟨(h.send m hm).1.le a, (h.send m hm).2⟩, hd, fun k => ?_⟩
  by_cases hk : k <= s.save.length
  · show ∃ h c, _ /\ _ /\ _ /\ _ /\ _ /\ d0.replay ((s.save ++ [x]).take k) = _
    rw [List.take_append_of_le_length hk]; exact h.part k
  · refine ⟨g', c, h.le.trans a, h.only.trans o, G, hc, hm, ?_⟩
    show d0.replay ((s.save ++ [x]).take k) = _
    rw [List.take_of_length_le (by rw [List.length_append, List.length_singleton]; omega)]; exact hd
theorem SOK.out (h : SOK g0 r d0 g s) (m : Mg) (hm : m.to ≠ (s.c.me : Int) -> MOK g { m with from_ := (s.c.me : Int), view := s.c.view }) : SOK g0 r d0 g (s.out m) := by
  unfold St.out; split
  · exact h
  · next hne =>
    refine ⟨h.le, h.only, h.gok, h.cok, h.me, fun x hx => ?_, h.disk, h.part⟩
    rcases List.mem_append.1 hx with hx | hx
    · exact h.send x hx
    · obtain rfl := List.mem_singleton.1 hx
      exact ⟨hm hne, by show ((s.c.me : Nat) : Int) = _; rw [h.me]⟩
theorem out_c (s : St) (m : Mg) : (s.out m).c = s.c := by unfold St.out; split <;> rfl
theorem out_save (s : St) (m : Mg) : (s.out m).save = s.save := by unfold St.out; split <;> rfl
theorem SOK.outs (f : Nat -> Mg) (hm : ∀ to, to < g.n -> (f to).to ≠ (r : Int) -> MOK g { f to with from_ := (r : Int), view := s.c.view }) :
    ∀ (k : Nat), k <= g.n -> ∀ (c : Co), s.c = c -> SOK g0 r d0 g s -> SOK g0 r d0 g ((List.range k).foldl (fun (s : St) (to : Nat) => s.out (f to)) s) /\ ((List.range k).foldl (fun (s : St) (to : Nat) => s.out (f to)) s).c = c := by
  intro k
  induction k with
  | zero => intro _ c hc h; exact ⟨h, hc⟩
  | succ k ih =>
    intro hk c hc h; obtain ⟨h1, h2⟩ := ih (by omega) c hc h
    rw [List.range_succ, List.foldl_append]; simp only [List.foldl_cons, List.foldl_nil]; refine ⟨h1.out _ fun hne => ?_, by rw [out_c, h2]⟩
    rw [h1.me] at hne ⊢; have := hm k (by omega) hne
    rw [h2, <- hc]; exact this
theorem acl (f : Nat -> Mg) (F : St -> Nat -> Mg) (c : Co) (hF : ∀ s : St, s.c = c -> F s = f) : ∀ (l : List Nat) (s : St), s.c = c -> l.foldl (fun (s : St) (to : Nat) => s.out (F s to)) s = l.foldl (fun (s : St) (to : Nat) => s.out (f to)) s
  | [], s, _ => rfl
  | a :: l, s, h => by
    simp only [List.foldl_cons]; rw [hF s h]; exact acl f F c hF l _ (by rw [out_c, h])
theorem SOK.promise (h : SOK g0 r d0 g s) {v : Nat} (hv : s.c.view <= v) (hm : v <= mostView) : ∃ g', Le g g' /\ SOK g0 r d0 g' (s.promise v) := by
  have hc := h.cok; have hvm : s.c.view = g.V r := by rw [<- h.me]; exact hc.view
  have a : Le g { g with V := upd g.V r v } := by
    refine ⟨rfl, fun p => ?_, fun _ _ _ => rfl, fun _ _ l hl => ⟨l, hl, List.prefix_refl _⟩, fun _ _ _ => rfl, fun _ hx => hx⟩
    show g.V p <= upd g.V r v p
    unfold upd; split
    · next e => rw [e]; omega
    · exact Nat.le_refl _
  have o : Only r g { g with V := upd g.V r v } := ⟨rfl, fun p hp => ⟨by show upd g.V r v p = _; unfold upd; rw [if_neg hp], fun _ => rfl⟩⟩
  have G : GOK { g with V := upd g.V r v } := by
    refine ⟨h.gok.pos, h.gok.zero, h.gok.ini0, fun p hp w l hl => ?_, fun w L hw hL => (h.gok.elec w L hw hL).le a rfl⟩
    obtain ⟨h1, h2⟩ := h.gok.acc p hp w l hl; exact ⟨Nat.le_trans h1 (a.V p), h2⟩
  refine ⟨_, a, h.put (c := { s.c with view := v }.follow) a o G ?_ h.me ⟨hm, Nat.zero_le _, rfl⟩ ?_⟩
  · refine ⟨hc.me, hc.n, ?_, hm, Nat.le_trans hc.last hv, hc.cur, hc.later, hc.agr, hc.comm.le a, fun q x hx => ?_, fun q x hx => ?_, fun hl => ?_, hc.wait, hc.waitn⟩
    · show v = upd g.V r v s.c.me; unfold upd; rw [if_pos h.me]
    · cases hx
    · cases hx
    · cases hl
  · show (if _ then (if v < s.c.view \/ ([] : List En) ≠ [] then none else _) else _) = _
    rw [if_pos rfl, if_neg (by simp; omega)]
    rfl
theorem take_c (s : St) (v : Nat) (l : List En) : (s.take v l).c = { s.c with last := v, list := l } := by
  unfold St.take St.put; dsimp only; split
  · split <;> rfl
  · rfl
theorem take_send (s : St) (v : Nat) (l : List En) : (s.take v l).send = s.send := by
  unfold St.take St.put; dsimp only; split
  · split <;> rfl
  · rfl
theorem SOK.take (h : SOK g0 r d0 g s) {l : List En} (hl : LOK g.S l) (h1 : s.c.last = s.c.view -> s.c.list <+: l) (h2 : s.c.list.take s.c.agreed <+: l)
    (h3 : (s.c.view % g.n = r /\ (s.c.last < s.c.view -> Elec g s.c.view l l.length)) \/ (s.c.view % g.n ≠ r /\ ∃ L, g.acc (s.c.view % g.n) s.c.view = some L /\ l <+: L /\ g.ini s.c.view <= l.length)) :
    ∃ g', Le g g' /\ SOK g0 r d0 g' (s.take s.c.view l) := by
  have hc := h.cok; have hme := h.me; have G := h.gok; have hvm : s.c.view = g.V r := by rw [<- h.me]; exact hc.view
  have hcur := hc.cur; have hlater := hc.later; rw [hme] at hcur hlater; have hrn : r < g.n := by rw [<- hme]; exact hc.me
  generalize hv : s.c.view = v at *; have hlast := hc.last; rw [hv] at hlast
  have hold : ∀ k, g.acc r v = some k -> s.c.last = v /\ k = s.c.list := fun k hk => by
    have : s.c.last = v := by
      rcases Nat.eq_or_lt_of_le hlast with h | h
      · exact h
      · rw [hlater v h] at hk; cases hk
    rw [this, hk] at hcur; exact ⟨this, Option.some.inj hcur⟩
  let acc' : Nat -> Nat -> Option (List En) := fun p u => if p = r /\ u = v then some l else g.acc p u
  let ini' : Nat -> Nat := fun u => if u = v /\ v % g.n = r /\ s.c.last < v then l.length else g.ini u
  have aN : ∀ p u, ¬ (p = r /\ u = v) -> acc' p u = g.acc p u := fun p u x => if_neg x
  have aY : acc' r v = some l := if_pos ⟨rfl, rfl⟩
  have a : Le g { g with acc := acc', ini := ini' } := by
    refine ⟨rfl, fun _ => Nat.le_refl _, fun p u hu => aN p u fun ⟨x, y⟩ => ?_, fun p u k hk => ?_, fun u L hL => ?_, fun _ hx => hx⟩
    · rw [x, y, hvm] at hu; exact Nat.lt_irrefl _ hu
    · by_cases x : p = r /\ u = v
      · obtain ⟨rfl, rfl⟩ := x
        obtain ⟨h4, rfl⟩ := hold k hk; exact ⟨l, aY, h1 h4⟩
      · exact ⟨k, (aN p u x).trans hk, List.prefix_refl _⟩
    · show ini' u = g.ini u
      refine if_neg fun ⟨x, y, z⟩ => ?_
      rw [x, y, hlater v z] at hL; cases hL
  have o : Only r g { g with acc := acc', ini := ini' } := ⟨rfl, fun p hp => ⟨rfl, fun u => aN p u fun x => hp x.1⟩⟩
  have iv : ∀ u, ¬ (u = v /\ v % g.n = r /\ s.c.last < v) -> ini' u = g.ini u := fun u x => if_neg x
  have hcurl : g.ini s.c.last <= s.c.list.length := by
    obtain ⟨_, _, _, _, _, x⟩ := G.acc r hrn _ _ hcur; exact x
  have key : ini' v <= l.length := by
    by_cases x : v % g.n = r /\ s.c.last < v
    · rw [show ini' v = l.length from if_pos ⟨rfl, x⟩]; exact Nat.le_refl _
    · rw [iv v fun y => x y.2]
      rcases h3 with ⟨h4, _⟩ | ⟨h4, L, _, _, h5⟩
      · have h5 : s.c.last = v := by
          rcases Nat.eq_or_lt_of_le hlast with h | h
          · exact h
          · exact absurd ⟨h4, h⟩ x
        rw [h5] at hcurl; exact Nat.le_trans hcurl (h1 h5).length_le
      · exact h5
  have G' : GOK { g with acc := acc', ini := ini' } := by
    refine ⟨G.pos, fun p hp => ?_, ?_, fun p hp u k hk => ?_, fun u L hu hL => ?_⟩
    · obtain ⟨k, hk⟩ := G.zero p hp
      obtain ⟨k', hk', _⟩ := a.grow p 0 k hk; exact ⟨k', hk'⟩
    · show ini' 0 = 0
      rw [iv 0 fun ⟨x, _, z⟩ => by omega]; exact G.ini0
    · by_cases x : p = r /\ u = v
      · obtain ⟨rfl, rfl⟩ := x
        have : k = l := by rw [show acc' p u = some k from hk] at aY; exact Option.some.inj aY
        subst this; refine ⟨by rw [hvm]; exact Nat.le_refl _, hl, ?_⟩
        rcases h3 with ⟨h4, _⟩ | ⟨h4, L, h5, h6, h7⟩
        · exact ⟨k, by show acc' (u % g.n) u = _; rw [h4]; exact aY, List.prefix_refl _, key⟩
        · exact ⟨L, (aN _ _ fun x => h4 x.1).trans h5, h6, key⟩
      · have hk' : g.acc p u = some k := (aN p u x).symm.trans hk
        obtain ⟨h4, h5, L, h6, h7, h8⟩ := G.acc p hp u k hk'; obtain ⟨M, h9, h10⟩ := a.grow _ u L h6; exact ⟨h4, h5, M, h9, h7.trans h10, by rw [a.ini u L h6]; exact h8⟩
    · by_cases x : u % g.n = r /\ u = v
      · obtain ⟨x, rfl⟩ := x
        have : L = l := by
          have hL' : acc' (u % g.n) u = some L := hL; rw [x, aY] at hL'; exact (Option.some.inj hL').symm
        subst this; rcases Nat.eq_or_lt_of_le hlast with h4 | h4
        · have h5 : g.acc (u % g.n) u = some s.c.list := by rw [x]; rw [h4] at hcur; exact hcur
          have h6 := G.elec u s.c.list hu h5; rw [h4] at hcurl; rw [show ({ g with acc := acc', ini := ini' } : Gh).ini u = g.ini u from iv u fun y => by omega]
          exact h6.le a (qz (h1 h4) hcurl)
        · rcases h3 with ⟨_, h5⟩ | ⟨h5, _⟩
          · rw [show ({ g with acc := acc', ini := ini' } : Gh).ini u = L.length from if_pos ⟨rfl, x, h4⟩]
            exact (h5 h4).le a rfl
          · exact absurd x h5
      · have hL' : g.acc (u % g.n) u = some L := (aN _ _ x).symm.trans hL
        have := G.elec u L hu hL'; rw [show ({ g with acc := acc', ini := ini' } : Gh).ini u = g.ini u from a.ini u L hL']
        exact this.le a rfl
  have hlen : s.c.agreed <= l.length := by
    have := h2.length_le; rw [List.length_take, Nat.min_eq_left hc.agr] at this; exact this
  have hta : l.take s.c.agreed = s.c.list.take s.c.agreed := by
    rw [qz h2 (by rw [List.length_take]; have := hc.agr; omega), List.take_take, Nat.min_self]
  have hC : COK { g with acc := acc', ini := ini' } { s.c with last := v, list := l } := by
    refine ⟨hc.me, hc.n, hc.view, by have := hc.most; rw [hv] at this; exact hc.most, ?_, ?_, fun u hu => ?_, hlen, ?_, fun q x hx => ?_, fun q x hx => ?_, fun hl => ?_, hc.wait, hc.waitn⟩
    · show v <= s.c.view; rw [hv]; exact Nat.le_refl _
    · show acc' s.c.me v = _; rw [hme]; exact aY
    · show acc' s.c.me u = none
      rw [hme, aN r u fun x => by have : v < u := hu; omega]
      exact hlater u (Nat.lt_of_le_of_lt hlast hu)
    · show Comm _ v (l.take s.c.agreed)
      rw [hta]; exact (hc.comm.le a).mono hlast (List.prefix_refl _)
    · obtain ⟨x1, x2, x3⟩ := hc.got q x hx
      exact ⟨x1, x2.le a, x3⟩
    · obtain ⟨x1, k, x2, x3⟩ := hc.held q x hx
      obtain ⟨m, x4, x5⟩ := a.grow _ _ _ x2; exact ⟨x1, m, x4, Nat.le_trans x3 x5.length_le⟩
    · exact ⟨(hc.lead hl).1, hv.symm⟩
  refine ⟨_, a, ?_⟩; have hlok := hc.lok G; have hmv : v <= mostView := by rw [<- hv]; exact hc.most
  unfold St.take; dsimp only; by_cases hb : s.c.last = v /\ begins l s.c.list = true
  · rw [if_pos hb]
    have hp := (tr hl.z hlok.z).1 hb.2; by_cases hlt : s.c.list.length < l.length
    · rw [if_pos hlt]
      refine h.put (x := ⟨3, 0, 0, 0, l.drop s.c.list.length⟩) a o G' hC hme ⟨Nat.zero_le _, Nat.le_refl _, (hl.drop _).listed⟩ ?_
      have e : s.c.list ++ l.drop s.c.list.length = l := by
        obtain ⟨t, rfl⟩ := hp; rw [List.drop_left]
      show (if listed (s.c.list ++ l.drop s.c.list.length) = true then some ({ base s.c with list := s.c.list ++ l.drop s.c.list.length } : Co) else none) = _
      rw [if_pos (by rw [e]; exact hl.listed), e]
      simp only [base, Co.new, hb.1, St.put]
    · rw [if_neg hlt]
      have e : s.c.list = l := by
        obtain ⟨t, rfl⟩ := hp; rw [List.length_append] at hlt; rw [List.length_eq_zero_iff.1 (show t.length = 0 by omega), List.append_nil]
      have hk : ({ s.c with last := v, list := l } : Co) = s.c := by
        obtain ⟨⟨⟩, _, _⟩ := s; simp only at hb e ⊢; rw [<- hb.1, <- e]
      refine ⟨h.le.trans a, h.only.trans o, G', hC, hme, fun m hm => ⟨(h.send m hm).1.le a, (h.send m hm).2⟩, ?_, h.part⟩
      show d0.replay s.save = some (base _)
      rw [h.disk, hk]
  · rw [if_neg hb]
    refine h.put (x := ⟨2, v, 0, 0, l⟩) a o G' hC hme ⟨hmv, Nat.zero_le _, hl.listed⟩ ?_; show (if v < s.c.view \/ v < s.c.last \/ begins l (s.c.list.take 0) = false then none else some ({ base s.c with view := v, last := v, list := l } : Co)) = _
    rw [if_neg (by
      rw [not_or, not_or]; refine ⟨by omega, by omega, ?_⟩
      rw [List.take_zero, (tr hl.z (by intro e he; cases he)).2 List.nil_prefix]; simp)]
    simp only [base, Co.new, St.put, hv]
end Ag
end Go.Proofs.Ytbciofnejefkiaa
namespace Go.Proofs.Ytbciofnejefkiaa
namespace Ag
def LeV (a b : Vt) : Prop := a.last < b.last \/ a.last = b.last /\ a.list.length <= b.list.length
theorem LeV.refl (a : Vt) : LeV a a := .inr ⟨rfl, Nat.le_refl _⟩
theorem LeV.trans {a b c : Vt} (h : LeV a b) (k : LeV b c) : LeV a c := by
  unfold LeV at *; omega
theorem aj8 (c : Co) : ∀ k, ∃ b, (List.range k).foldl (better c) ⟨c.last, c.list⟩ = b /\ (b = ⟨c.last, c.list⟩ \/ (∃ q, c.got q = some b) /\ begins b.list (c.list.take c.agreed) = true) /\ LeV ⟨c.last, c.list⟩ b /\
    ∀ q x, q < k -> c.got q = some x -> begins x.list (c.list.take c.agreed) = true -> LeV x b
  | 0 => ⟨_, rfl, .inl rfl, LeV.refl _, fun q x h => absurd h (Nat.not_lt_zero _)⟩
  | k + 1 => by
    obtain ⟨b, h1, h2, h3, h4⟩ := aj8 c k; rw [List.range_succ, List.foldl_append, h1]; simp only [List.foldl_cons, List.foldl_nil]; refine ⟨_, rfl, ?_⟩; unfold better
    cases hg : c.got k with
    | none =>
      refine ⟨h2, h3, fun q x hq hx hb => ?_⟩
      rcases Nat.lt_succ_iff_lt_or_eq.1 hq with h | rfl
      · exact h4 q x h hx hb
      · rw [hg] at hx; cases hx
    | some y =>
      dsimp only; split
      · next hy =>
        refine ⟨.inr ⟨⟨k, hg⟩, hy.2⟩, h3.trans (by unfold LeV; omega), fun q x hq hx hb => ?_⟩
        rcases Nat.lt_succ_iff_lt_or_eq.1 hq with h | rfl
        · exact (h4 q x h hx hb).trans (by unfold LeV; omega)
        · rw [hg] at hx; cases hx; exact LeV.refl _
      · next hy =>
        refine ⟨h2, h3, fun q x hq hx hb => ?_⟩
        rcases Nat.lt_succ_iff_lt_or_eq.1 hq with h | rfl
        · exact h4 q x h hx hb
        · rw [hg] at hx; cases hx
          have : ¬ (b.last < y.last \/ y.last = b.last /\ b.list.length < y.list.length) := fun h => hy ⟨h, hb⟩
          unfold LeV; omega
variable {g0 g : Gh} {r : Nat} {d0 : Co} {s : St}
theorem COK.mine {c : Co} (G : GOK g) (hc : COK g c) (hl : c.view % g.n = c.me) {q : Nat} {k : List En} (hq : q < g.n) (h : g.acc q c.view = some k) : c.last = c.view /\ k <+: c.list := by
  obtain ⟨_, _, L, hL, h1, _⟩ := G.acc q hq _ k h; rw [hl] at hL
  have : c.last = c.view := by
    rcases Nat.eq_or_lt_of_le hc.last with h | h
    · exact h
    · rw [hc.later _ h] at hL; cases hL
  have hcur := hc.cur; rw [this, hL] at hcur; exact ⟨this, by rw [<- Option.some.inj hcur]; exact h1⟩
theorem ao2 {c : Co} (G : GOK g) (hc : COK g c) (hl : c.view % g.n = c.me) (hs : c.quorum <= c.size) :
    LOK g.S c.best.list /\ (c.last = c.view -> c.list <+: c.best.list) /\ c.list.take c.agreed <+: c.best.list /\ (c.last < c.view -> Elec g c.view c.best.list c.best.list.length) := by
  obtain ⟨b, h1, h2, h3, h4⟩ := aj8 c c.n; have hb : c.best = b := h1; rw [hb]; have hlok := hc.lok G; have hlast := hc.last; have hrn := hc.me
  have hv : ∀ q x, c.got q = some x -> q < g.n /\ c.view <= g.V q /\ x.last <= c.view /\ LOK g.S x.list /\
      ((c.last = c.view /\ x.last = c.view /\ x.list <+: c.list) \/ (x.last < c.view /\ g.acc q x.last = some x.list /\ ∀ u, x.last < u -> u < c.view -> g.acc q u = none)) := by
    intro q x hx; obtain ⟨x1, ⟨x2, x3, k, x4, x5, x6⟩, _⟩ := hc.got q x hx; refine ⟨x1, x2, x3, ((G.acc q x1 _ k x4).2.1).pre x5, ?_⟩; rcases Nat.eq_or_lt_of_le x3 with h | h
    · rw [h] at x4
      obtain ⟨y1, y2⟩ := hc.mine G hl x1 x4; exact .inl ⟨y1, h, x5.trans y2⟩
    · obtain ⟨y1, y2⟩ := x6 h
      rw [<- y1] at x4; exact .inr ⟨h, x4, y2⟩
  have h5 : ∀ q x, c.got q = some x -> LeV x b := by
    intro q x hx; obtain ⟨x1, x2, x3, x4, x5⟩ := hv q x hx; rcases x5 with ⟨y1, y2, y3⟩ | ⟨y1, y2, y3⟩
    · refine LeV.trans (b := ⟨c.last, c.list⟩) (.inr ⟨by rw [y2]; exact y1.symm, y3.length_le⟩) h3
    · refine Classical.byContradiction fun hn => ?_
      have hbl : c.last <= b.last := by unfold LeV at h3; simp only at h3; omega
      have hxl : b.last <= x.last := by unfold LeV at hn; omega
      have hp : c.list.take c.agreed <+: x.list := by
        rcases Nat.eq_or_lt_of_le (Nat.le_trans hbl hxl) with he | he
        · rcases Comm.acc G hc.comm (by omega) x1 y2 with h | h
          · exact h
          · have z1 := h.length_le
            rw [List.length_take] at z1; have : c.list.length <= b.list.length := by unfold LeV at h3; simp only at h3; omega
            have : b.list.length < x.list.length := by unfold LeV at hn; omega
            omega
        · exact Comm.lt G hc.comm he x1 y2
      exact hn (h4 q x (by rw [hc.n]; exact x1) hx ((tr x4.z (hlok.z.take _)).2 hp))
  have hbo : LOK g.S b.list := by
    rcases h2 with rfl | ⟨⟨q, hq⟩, _⟩
    · exact hlok
    · exact (hv q b hq).2.2.2.1
  refine ⟨hbo, fun he => ?_, ?_, fun hlt => ?_⟩
  · rcases h2 with rfl | ⟨⟨q, hq⟩, _⟩
    · exact List.prefix_refl _
    · obtain ⟨x1, x2, x3, x4, x5⟩ := hv q b hq
      rcases x5 with ⟨y1, y2, y3⟩ | ⟨y1, y2, y3⟩
      · have : c.list.length <= b.list.length := by unfold LeV at h3; simp only at h3; omega
        have : b.list = c.list := by
          obtain ⟨t, ht⟩ := y3; rw [<- ht, List.length_append] at this; rw [List.length_eq_zero_iff.1 (show t.length = 0 by omega), List.append_nil] at ht
          exact ht
        rw [this]; exact List.prefix_refl _
      · unfold LeV at h3; simp only at h3; omega
  · rcases h2 with rfl | ⟨⟨q, hq⟩, hbeg⟩
    · exact List.take_prefix _ _
    · exact (tr hbo.z (hlok.z.take _)).1 hbeg
  · have hnl : ∀ q x, c.got q = some x -> x.last < c.view /\ g.acc q x.last = some x.list /\ ∀ u, x.last < u -> u < c.view -> g.acc q u = none := fun q x hx => by
      obtain ⟨_, _, _, _, x5⟩ := hv q x hx; rcases x5 with ⟨y1, _⟩ | y
      · omega
      · exact y
    have hown : ∃ q, q < g.n /\ g.acc q b.last = some b.list := by
      rcases h2 with rfl | ⟨⟨q, hq⟩, _⟩
      · exact ⟨c.me, hrn, hc.cur⟩
      · exact ⟨q, (hv q b hq).1, (hnl q b hq).2.1⟩
    have hbv : b.last < c.view := by
      rcases h2 with rfl | ⟨⟨q, hq⟩, _⟩
      · exact hlt
      · exact (hnl q b hq).1
    obtain ⟨o, ho, hob⟩ := hown; obtain ⟨_, _, Lb, hLb, z1, z2⟩ := G.acc o ho _ _ hob; refine ⟨fun q => (c.got q).isSome, b.last, Lb, ?_, hbv, fun p hp hq => ?_, hLb, z1.length_le, z2, (qz z1 (Nat.le_refl _)).symm⟩
    · unfold quo
      unfold Co.quorum Co.size at hs; rw [hc.n] at hs; exact hs
    · obtain ⟨x, hx⟩ := Option.isSome_iff_exists.1 hq
      obtain ⟨x1, x2, x3, x4, _⟩ := hv p x hx; obtain ⟨y1, y2, y3⟩ := hnl p x hx; have z := h5 p x hx; refine ⟨x2, fun u hu hv' => y3 u (by unfold LeV at z; omega) hv', fun l hl => ?_⟩
      have : x.last = b.last := by
        rcases Nat.lt_or_ge x.last b.last with h | h
        · rw [y3 _ h hbv] at hl; cases hl
        · unfold LeV at z; omega
      rw [<- this, y2] at hl
      cases hl
      unfold LeV at z; omega
theorem ac7 (x : Nat) : ∀ l, (ins x l).Perm (x :: l)
  | [] => .refl _
  | y :: l => by
    unfold ins; split
    · exact .refl _
    · exact ((ac7 x l).cons y).trans (.swap x y l)
theorem sort_perm : ∀ l, (sort l).Perm l
  | [] => .refl _
  | x :: l => (ac7 x (sort l)).trans ((sort_perm l).cons x)
theorem ag1 (x : Nat) : ∀ l, l.Pairwise (· <= ·) -> (ins x l).Pairwise (· <= ·)
  | [], _ => by simp [ins]
  | y :: l, h => by
    unfold ins; rw [List.pairwise_cons] at h; split
    · next hxy =>
      refine List.pairwise_cons.2 ⟨fun z hz => ?_, List.pairwise_cons.2 h⟩
      rcases List.mem_cons.1 hz with rfl | hz
      · exact hxy
      · exact Nat.le_trans hxy (h.1 z hz)
    · next hxy =>
      refine List.pairwise_cons.2 ⟨fun z hz => ?_, ag1 x l h.2⟩
      rcases List.mem_cons.1 ((ac7 x l).mem_iff.1 hz) with rfl | hz
      · omega
      · exact h.1 z hz
theorem sort_sorted : ∀ l, (sort l).Pairwise (· <= ·)
  | [] => List.Pairwise.nil
  | x :: l => ag1 x _ (sort_sorted l)
theorem apo (l : List Nat) (q : Nat) (h0 : 0 < q) (h : q <= l.length) : q <= l.countP fun x => decide ((sort l).getD (l.length - q) 0 <= x) := by
  have hp := sort_perm l; have hl : (sort l).length = l.length := hp.length_eq; rw [<- hp.countP_eq]; have hs := sort_sorted l; generalize sort l = m at *; rw [<- List.take_append_drop (l.length - q) m] at hs ⊢; rw [List.countP_append]; have hd : (m.drop (l.length - q)).length = q := by rw [List.length_drop]; omega
  have hg : (m.take (l.length - q) ++ m.drop (l.length - q)).getD (l.length - q) 0 = (m.drop (l.length - q)).headD 0 := by
    rw [List.take_append_drop, List.headD_eq_head?_getD, List.head?_drop]; simp [List.getD]
  rw [hg]; have h2 := (List.pairwise_append.1 hs).2.1
  have : (m.drop (l.length - q)).countP (fun x => decide ((m.drop (l.length - q)).headD 0 <= x)) = q := by
    generalize m.drop (l.length - q) = k at *; rw [<- hd, List.countP_eq_length]; intro x hx; rw [decide_eq_true_eq]
    cases k with
    | nil => cases hx
    | cons a k =>
      rcases List.mem_cons.1 hx with rfl | hx
      · exact Nat.le_refl _
      · exact (List.pairwise_cons.1 h2).1 x hx
  omega
theorem akt {d : Co} (G : GOK g) (h1 : COK g d) (hl : d.view % g.n = d.me) (he : d.last = d.view) :
    COK g (if d.helds.length < d.quorum then d else { d with agreed := max d.agreed (min ((sort d.helds).getD (d.helds.length - d.quorum) 0) d.list.length) }) := by
  have hcur := h1.cur; rw [he] at hcur; split
  · exact h1
  · next hq =>
    have hk := apo d.helds d.quorum (by unfold Co.quorum; omega) (by omega)
    generalize (sort d.helds).getD (d.helds.length - d.quorum) 0 = k at *; have hm : min k d.list.length <= d.list.length := Nat.min_le_right _ _
    have hC : Comm g d.last (d.list.take (min k d.list.length)) := by
      refine ⟨d.last, Nat.le_refl _, fun q => ((d.held q).map fun h => decide (k <= h)).getD false, ?_, fun p hp hq => ?_⟩
      · unfold quo
        unfold Co.helds at hk; rw [List.countP_filterMap, h1.n] at hk; unfold Co.quorum at hk; rw [h1.n] at hk; exact hk
      · cases hh : d.held p with
        | none => simp only [hh] at hq; cases hq
        | some h =>
          simp only [hh, Option.map_some, Option.getD_some, decide_eq_true_eq] at hq; obtain ⟨_, l, h2, h3⟩ := h1.held p h hh; refine ⟨l, by rw [he]; exact h2, ?_⟩
          obtain ⟨_, _, L, hL, h4, _⟩ := G.acc p hp _ _ h2; rw [hl, hcur] at hL
          cases hL
          exact List.prefix_of_prefix_length_le (List.take_prefix _ _) h4 (by rw [List.length_take]; omega)
    refine ⟨h1.me, h1.n, h1.view, h1.most, h1.last, h1.cur, h1.later, ?_, ?_, h1.got, h1.held, h1.lead, h1.wait, h1.waitn⟩
    · have := h1.agr
      show max d.agreed (min k d.list.length) <= d.list.length
      omega
    · show Comm g d.last (d.list.take (max d.agreed (min k d.list.length)))
      rcases Nat.le_total d.agreed (min k d.list.length) with h | h
      · rw [Nat.max_eq_right h]; exact hC
      · rw [Nat.max_eq_left h]; exact h1.comm
theorem aiy {c : Co} (G : GOK g) (hc : COK g c) (hl : c.view % g.n = c.me) (he : c.last = c.view) : COK g c.settle := by
  have hcur := hc.cur; rw [he] at hcur
  have h1 : COK g { c with held := upd c.held c.me (some c.list.length) } := by
    refine ⟨hc.me, hc.n, hc.view, hc.most, hc.last, hc.cur, hc.later, hc.agr, hc.comm, hc.got, fun q h hq => ?_, hc.lead, hc.wait, hc.waitn⟩
    have hq' : (upd c.held c.me (some c.list.length)) q = some h := hq; unfold upd at hq'; split at hq'
    · next e => subst e; cases hq'; exact ⟨hc.me, c.list, hcur, Nat.le_refl _⟩
    · exact hc.held q h hq'
  exact akt G h1 hl he
end Ag
end Go.Proofs.Ytbciofnejefkiaa
