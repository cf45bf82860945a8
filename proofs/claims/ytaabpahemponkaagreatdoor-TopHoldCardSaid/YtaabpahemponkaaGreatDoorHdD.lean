/-
  TopHold called gives true, for every input.
-/
import Derived.Test.YtaabpahemponkaaGreatDoorHdC
import Derived.Test.YtaabpahemponkaaGreatDoorAmB
set_option linter.unusedVariables false
set_option linter.unusedSimpArgs false
namespace Go.Ex
open Go Go.Am Go.Proofs Go.RowKit
def St (w0 : World) (R : List (Nat × AV)) (outs : List (Nat × List AV)) (N : Nat) (act : Act) (w : World) : Prop :=
  ∃ g, (Gh.start w0).le g ∧ (∀ p, N ≤ p → g.loc p = none) ∧ XPre 92 (rL R) (join (hof (putAll .nil (celL outs))) AHeap.empty) g act w
theorem lit_in {l : List (Nat × List AV)} {p : Nat} {y : AO} (h : hof (putAll .nil (celL l)) p = some y) : ∃ q ∈ l, q.1 = p ∧ y = .cel q.2 := by
  obtain ⟨q, hq, e1, e2⟩ := putAll_some h
  obtain ⟨r, hr, rfl⟩ := List.mem_map.1 hq
  exact ⟨r, hr, e1, by rw [e2]; exact cel_ao r.2⟩
theorem disj_lit {l : List (Nat × List AV)} {a b : Nat} (hl : l.all (fun q => Nat.blt q.1 a) = true) : Disj (hof (putAll .nil (celL l))) AHeap.empty a b :=
  ⟨fun _ _ _ => rfl, fun _ _ _ => rfl, fun p h1 h2 => by
    rcases Option.eq_none_or_eq_some (hof (putAll .nil (celL l)) p) with h | ⟨y, h⟩
    · exact h
    · obtain ⟨q, hq, e1, _⟩ := lit_in h
      have h3 : q.1 < a := Nat.le_of_ble_eq_true (List.all_eq_true.1 hl q hq)
      omega⟩
section
variable {w0 : World} {c x y : Code} {R R' : List (Nat × AV)} {outs outs' : List (Nat × List AV)} {a b : Nat} {e : Exit} {Q : Exit → Act → World → Prop} {act : Act} {w : World}
theorem st_node (h : CodeS Tryz.prog 92 c (rL R) (putAll .nil (celL outs)) a e (rL R') (putAll .nil (celL outs')) b) (ha : outs.all (fun q => Nat.blt q.1 a) = true) (hs : St w0 R outs a act w)
    (hk : ∀ act' w', St w0 R' outs' b act' w' → Q e act' w') : c.wp Tryz.prog Q act w := by
  obtain ⟨g, h1, h2, h3⟩ := hs
  refine wp_mono (h.2.2 _ g act w (disj_lit ha) h3 (fun p hp _ => h2 p hp)) ?_
  rintro e' act' w' ⟨rfl, g', hx, hp⟩
  refine hk act' w' ⟨g', h1.trans hx.le, fun p hp' => ?_, hp⟩
  rw [hx.out p (.inr hp')]
  exact h2 p (Nat.le_trans h.1 hp')
theorem st_seq (h : CodeS Tryz.prog 92 x (rL R) (putAll .nil (celL outs)) a .normal (rL R') (putAll .nil (celL outs')) b) (ha : outs.all (fun q => Nat.blt q.1 a) = true) (hs : St w0 R outs a act w)
    (hk : ∀ act' w', St w0 R' outs' b act' w' → y.wp Tryz.prog Q act' w') : (Code.seq x y).wp Tryz.prog Q act w :=
  wp_seq (st_node h ha hs fun act' w' h => hk act' w' h)
theorem st_all (hs : St w0 R outs a act w) : St w0 [] [] a act w := by
  obtain ⟨g, h1, h2, h3⟩ := hs
  exact ⟨g, h1, h2, h3.defers, h3.size, fun i => (show Rep g .unk _ by simp only [Rep]), sim_part h3.sim fun p y h => by cases h⟩
theorem le_cut {g : Gh} {N : Nat} (h : (Gh.start w0).le g) : (Gh.start w0).le (g.cut N) := ⟨h.w0, h.h, fun o l e => by cases e⟩
theorem st_cut {N : Nat} (hs : St w0 R outs a act w) (hl : lowXs N outs = true) (hR : ∀ p ∈ R, low N p.2 = true)
    (h1 : ∀ q ∈ outs, celsH outs q.1 = some (.cel q.2)) (h2 : ∀ q ∈ outs, hof (putAll .nil (celL outs)) q.1 = some (.cel q.2)) : St w0 R outs N act w := by
  obtain ⟨g, k1, k2, k3⟩ := hs
  refine ⟨g.cut N, le_cut k1, fun p hp => by simp [Gh.cut, show ¬ p < N by omega], ?_⟩
  have := xpre_cut (R' := rL R) (l := outs) k3 hl (fun p x hp => ?_) (fun i => ?_)
  · refine ⟨this.defers, this.size, this.regs, sim_part this.sim fun p y hp => ?_⟩
    simp only [join] at hp
    cases hq : hof (putAll .nil (celL outs)) p with
    | none => rw [hq] at hp; cases hp
    | some z =>
      rw [hq] at hp
      obtain ⟨q, hq', rfl, e2⟩ := lit_in hq
      rw [h1 q hq', ← e2]
      exact hp
  · obtain ⟨ys, hm, rfl⟩ := celsH_some hp
    exact join_some (h2 _ hm)
  · rcases rL_get R i with h | ⟨p, hp, e1, e2⟩
    · exact .inl h
    · exact .inr ⟨rfl, by rw [e2]; exact hR p hp⟩
end
theorem lowL_of {N : Nat} : ∀ {l : List AV}, (∀ x ∈ l, low N x = true) → lowL N l = true
  | [], _ => by simp only [lowL]
  | x :: l, h => by simp only [lowL, Bool.and_eq_true]; exact ⟨h x (by simp), lowL_of fun y hy => h y (by simp [hy])⟩
structure Args (n : Nat) (cs xs : List AV) : Prop where
  cl : cs.length = n
  xl : xs.length = n
  c : ∀ i, i < n → ∃ b, cs[i]? = some (.raw (.bool b))
  x : ∀ i, i < n → ∃ v, xs[i]? = some (iv v)
theorem Args.lowc {n N : Nat} {cs xs : List AV} (h : Args n cs xs) : lowL N cs = true := lowL_of fun x hx => by
  obtain ⟨i, hi, rfl⟩ := List.mem_iff_getElem.1 hx
  obtain ⟨b, hb⟩ := h.c i (h.cl ▸ hi)
  rw [List.getElem?_eq_getElem hi] at hb
  rw [Option.some.inj hb]
  simp only [low]
theorem Args.lowx {n N : Nat} {cs xs : List AV} (h : Args n cs xs) : lowL N xs = true := lowL_of fun x hx => by
  obtain ⟨i, hi, rfl⟩ := List.mem_iff_getElem.1 hx
  obtain ⟨b, hb⟩ := h.x i (h.xl ▸ hi)
  rw [List.getElem?_eq_getElem hi] at hb
  rw [Option.some.inj hb]
  simp only [low, iv]
theorem thH_in {tk : Int} {m0 m1 m2 m3 m4 m5 : AV} : (∀ q ∈ thH tk [m0, m1, m2, m3, m4, m5], celsH (thH tk [m0, m1, m2, m3, m4, m5]) q.1 = some (.cel q.2)) ∧
    ∀ q ∈ thH tk [m0, m1, m2, m3, m4, m5], hof (putAll .nil (celL (thH tk [m0, m1, m2, m3, m4, m5]))) q.1 = some (.cel q.2) := by
  constructor
  · intro q hq
    simp only [thH, thC, List.cons_append, List.nil_append, List.mem_cons, List.not_mem_nil, or_false] at hq
    rcases hq with rfl | rfl | rfl | rfl | rfl | rfl | rfl | rfl <;> kernel_rfl
  · intro q hq
    simp only [thH, thC, List.cons_append, List.nil_append, List.mem_cons, List.not_mem_nil, or_false] at hq
    rcases hq with rfl | rfl | rfl | rfl | rfl | rfl | rfl | rfl <;> kernel_rfl
theorem all_thH {tk : Int} {mems : List AV} : (thH tk mems).all (fun q => Nat.blt q.1 10114) = true := by kernel_rfl
theorem low_thH {tk h s u : Int} {bs bu : Bool} : lowXs 10114 (thH tk (memT bs bu h s u)) = true := by kernel_rfl
theorem low_rI {n i : Nat} {cs xs : List AV} {h s u : Int} (ha : Args n cs xs) : ∀ p ∈ rI n i cs xs h s u, low 10114 p.2 = true := fun p hp => by
  simp only [rI, List.mem_cons, List.not_mem_nil, or_false] at hp
  rcases hp with rfl | rfl | rfl | rfl | rfl | rfl | rfl
  · simp only [low]; exact ha.lowc
  · simp only [low]; exact ha.lowx
  all_goals rfl
section
variable {w0 : World} {n : Nat} {cs xs : List AV}
theorem hold_rounds (ha : Args n cs xs) (hn : n ≤ 40) {Q : Exit → Act → World → Prop} (hQ : ∀ act w, St w0 [] [] 10114 act w → Q (.exit 0) act w) : ∀ (k i : Nat) (h s u tk : Int) (bs bu : Bool) (act : Act) (w : World), i ≤ n → n - i < k → InvT bs bu h s u →
    St w0 (rI n i cs xs h s u) (thH tk (memT bs bu h s u)) 10114 act w → Code.rounds Tryz.prog lb Q k act w
  | 0, i, h, s, u, tk, bs, bu, act, w, hi, hk, hv, hs => absurd hk (Nat.not_lt_zero _)
  | k + 1, i, h, s, u, tk, bs, bu, act, w, hi, hk, hv, hs => by
    show lb.wp Tryz.prog _ act w
    by_cases hin : i < n
    · obtain ⟨b, hb⟩ := ha.c i hin
      obtain ⟨x, hx⟩ := ha.x i hin
      cases b with
      | true =>
        refine st_node (tick_t (tk := tk) bs bu (by omega) hin ha.cl ha.xl hx hb hv) all_thH hs fun act' w' h' => ?_
        exact hold_rounds ha hn hQ k (i + 1) _ _ _ _ _ _ act' w' (by omega) (by omega) (inv_t hv) (st_cut h' low_thH (low_rI ha) thH_in.1 thH_in.2)
      | false =>
        refine st_node (tick_f (tk := tk) bs bu (by omega) hin ha.cl ha.xl hx hb hv) all_thH hs fun act' w' h' => ?_
        exact hold_rounds ha hn hQ k (i + 1) _ _ _ _ _ _ act' w' (by omega) (by omega) (inv_f hv) (st_cut h' low_thH (low_rI ha) thH_in.1 thH_in.2)
    · rw [lb_eq]
      have := codeS_seq_exit (y := Code.seq qb q14) (by simp) (q1_out (cs := cs) (xs := xs) (tickA1 0 0 0 0 0) (same_ok 0 0) h s u tk (iv h) (b2 (bs || bu)) (iv s) (b2 bs) (iv u) (b2 bu) hin)
      exact st_node this all_thH hs fun act' w' h' => hQ act' w' (st_all h')
theorem hold_body {m : Nat} (hc : cs.length = n) (hx : xs.length = m) (hcs : ∀ i, i < n → ∃ b, cs[i]? = some (.raw (.bool b))) (hxs : ∀ i, i < m → ∃ v, xs[i]? = some (iv v)) {act : Act} {w : World} (hs : St w0 (r0 n m cs xs) [] 3 act w) :
    b5.wp Tryz.prog (fun e act' w' => e = .ret ∧ ∃ N, St w0 r4 [] N act' w') act w := by
  rw [b5_eq]
  refine st_seq (hA n m cs xs) rfl hs fun _ _ hs => ?_
  refine st_seq (hB n m cs xs) rfl hs fun _ _ hs => ?_
  by_cases hn : n ≤ 40
  · by_cases hm : m = n
    · subst hm
      have ha : Args m cs xs := ⟨hc, hx, hcs, hxs⟩
      refine st_seq (hC_ok m cs xs hn) rfl hs fun _ _ hs => ?_
      refine st_seq (hD_ok m cs xs) rfl hs fun _ _ hs => ?_
      refine st_seq (hE_ok m cs xs) (by kernel_rfl) hs fun _ _ hs => ?_
      refine st_seq (hF_ok m cs xs) (by kernel_rfl) hs fun _ _ hs => ?_
      refine st_seq (hG_ok m cs xs) (by kernel_rfl) hs fun _ _ hs => ?_
      refine st_seq (hH_ok m cs xs) (by kernel_rfl) hs fun _ _ hs => ?_
      refine wp_seq ?_
      refine st_seq (hI_ok m cs xs) (by kernel_rfl) hs fun _ _ hs => ?_
      refine wp_block (wp_loop_rounds 41 (hold_rounds ha hn (fun act w hs => ?_) 41 0 0 0 0 0 false false _ _ (Nat.zero_le _) (by omega) ⟨fun _ => rfl, fun _ => rfl, fun _ _ => rfl⟩ hs))
      exact st_node hZ_ok rfl hs fun _ _ hs => ⟨rfl, _, hs⟩
    · exact wp_seq (st_node (hC_odd n m cs xs hn hm) rfl hs fun _ _ hs => ⟨rfl, _, hs⟩)
  · exact wp_seq (st_node (hC_long n m cs xs (by omega)) rfl hs fun _ _ hs => ⟨rfl, _, hs⟩)
theorem hold_calls {m : Nat} (hc : cs.length = n) (hx : xs.length = m) (hcs : ∀ i, i < n → ∃ b, cs[i]? = some (.raw (.bool b))) (hxs : ∀ i, i < m → ∃ v, xs[i]? = some (iv v)) {args : Array Value} (hr : RepL (Gh.start w0) [.sls n cs, .sls m xs] args.toList) :
    Calls Tryz.prog 5 args w0 fun e w' => e = .returned (.bool true) ∧ Below w0.heap.size w0 w' := by
  have hp := xpre_start (n := 92) hr (show 2 ≤ 92 by decide) (Sim.start w0)
  have h0 : St w0 (r0 n m cs xs) [] 3 { tmps := args ++ Array.replicate (92 - args.size) undef, defers := [] } w0 := by
    refine ⟨Gh.start w0, .refl _, fun _ _ => rfl, hp.defers, hp.size, fun i => ?_, sim_part hp.sim fun p y h => by cases h⟩
    rcases rL_get (r0 n m cs xs) i with h | ⟨p, hp', rfl, e2⟩
    · rw [h]; simp only [Rep]
    · rw [e2]
      simp only [r0, List.mem_cons, List.not_mem_nil, or_false] at hp'
      rcases hp' with rfl | rfl
      · exact hp.regs 0
      · exact hp.regs 1
  refine calls_of_wp (fn := Tryz.f5) (c := b5) Tryz.func5 (by kernel_rfl) (wp_mono (hold_body hc hx hcs hxs h0) ?_)
  rintro e act' w' ⟨rfl, N, g, h1, h2, h3⟩
  have h4 : Rep g (rg (rL r4) 4) (act'.tmps.getD 4 undef) := h3.regs 4
  have h5 : act'.tmps.getD 4 undef = .bool true := by
    have e : rg (rL r4) 4 = .raw (.bool true) := by kernel_rfl
    rw [e] at h4
    simpa only [Rep] using h4
  refine ⟨h3.defers, _, results_run (us := [.bool true]) ?_, rfl, h3.sim.below h1⟩
  show (([ResultVar.tmp 4] : List ResultVar).mapM (resRun act'.tmps)).run Tryz.prog w' = _
  simp only [List.mapM_cons, List.mapM_nil, resRun, h5, Sem.run_bind, Sem.run_pure, Result.andThen_ok]
end
end Go.Ex
namespace Go.Am
open Go Go.RowKit
section
open Go.WideShapes Go.ChangeShapes
variable {H : Type} {enc : TypeId × Value → H} {P : Program}
theorem law_contract_at (B : Bulk H) {f : FuncId} {fn : Func} {s : ChangeSpec} {ty : Ty} {tb : TypeId} (hts : isTys P ty fn.params.toList = true) (hrow : ∀ t ∈ fn.params.toList, t < P.types.size)
    (hvars : s.vars = []) (hfn : ∀ ds : List (DataW H), ds.length = fn.params.toList.length → s.fn H ds = { results := [.lit (.bool true)], args := ds })
    (hres : fn.resultTypes = #[tb]) (hub : P.underlying tb = some .bool) (hl : laidOutB P = true) (hz : ∀ t e, t < P.types.size → P.underlying t = some (.slice e) → 0 < P.cellsOf e) (hm : mapsRowed P = true)
    (hc : ∀ (y : ty.V) (W : World) (args : Array Value), ty.ok y → RepL (Gh.start W) (ty.args y) args.toList → Calls P f args W fun e W' => e = .returned (.bool true) ∧ Below W.heap.size W W')
    {ap fr ho ag : Bool} (W : World) (base : Nat) (args : Array Value) (ds gs : List (DataW H)) (before : List MemPlace)
    (hval : ∀ (j : Nat) t v, fn.params[j]? = some t → args[j]? = some v → Value.okWide P W .any base t v)
    (hW : DataW.Whole enc P fn.params.toList s.vars ap W args.toList ds gs before) :
    Calls P f args W fun e W' => ∃ v, e = .returned v ∧ s.post enc P fn ap fr ho ag W args v W' := by
  have hW' := hW
  obtain ⟨p, q, hA, hV, rfl, hfz, hnd⟩ := hW
  rw [hvars] at hV
  obtain ⟨rfl, rfl⟩ := trodVars_none hV
  have hlt : ∀ x ∈ p ++ [], x.block < W.heap.size := fun x hx => hW'.lt x hx
  obtain ⟨y, h1, h2, h3⟩ := trod_args B ty _ _ _ _ hts (fun j t v ht hv => hval j t v (by simpa using ht) (by simpa using hv)) hA
  refine (hc y W args h1 h3).mono fun e W' ⟨he, hg⟩ => ?_
  subst he
  obtain ⟨hlen1, hlen2⟩ := trodAll_lens _ _ _ _ hA
  have hfn' := hfn (ds ++ []) (by simpa using hlen2)
  refine ⟨_, rfl, post_kept (pa := p) (pv := []) hW' ?_ ?_ ?_ rfl hg ?_⟩
  · intro b sp hd
    rw [hfn', hres]
    exact trodAll_cons_mk (shut_bool hub _) trodAll_mk0
  · intro sp hsp
    rw [hfn']
    simp only [List.append_nil]
    exact trodAll_stays hl hz hm hg hrow hA (fun x hx => hlt x (by simpa using hx)) fun x hx => hsp x (by simpa using hx)
  · intro sp hsp
    rw [hfn', hvars]
    rfl
  · exact ok_one hres rfl (okWide_bool_mk hub _)
end
end Go.Am
