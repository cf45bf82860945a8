/-
  TopDelay: what stands in registers and objects, for each length of the input.
-/
import Derived.Test.YtaabpahemponkaaGreatDoorDyJ
import Derived.Test.YtaabpahemponkaaGreatDoorDyV
import Derived.Test.YtaabpahemponkaaGreatDoorDyW
import Derived.Test.YtaabpahemponkaaGreatDoorDyQ
import Derived.Test.YtaabpahemponkaaGreatDoorDyT
import Derived.Test.YtaabpahemponkaaGreatDoorDyU
import Derived.Test.YtaabpahemponkaaGreatDoorDyP
import Derived.Test.YtaabpahemponkaaGreatDoorDyK
set_option linter.unusedVariables false
set_option linter.unusedSimpArgs false
namespace Go.Ex
open Go Go.Am Go.RowKit
def goodL (vs : List AV) (r : Option (List AV)) : Prop := r = some vs
theorem goodL_none (vs : List AV) : ¬ goodL vs none := fun h => by cases h
theorem callS_of {P : Program} {f : FuncId} {fn : Func} {c : Code} (hfn : P.funcs[f]? = some fn) (hcb : fn.body = some c) {args : List AV} {R R' : T AV} {H H' : T XO} {a b : Nat} {e : Exit} {vs : List AV} {E : Env (Option (List AV))}
    (h : CodeS P fn.ntmps c R H a e R' H' b) (hty : ∀ t i, E.ty.get t = some i → TyOk P t i) (hbad : E.bad = none) (he : e = .normal ∨ e = .ret) (hn : args.length ≤ fn.ntmps) (hR : ∀ i, rg R i = .unk ∨ rg R i = rg (T.putL .nil 0 args) i)
    (hres : resL fn.results.toList R' H' E some = some vs) : CallS P f args H a (results1 vs) H' b := by
  obtain ⟨p1, p2, p3⟩ := h
  obtain ⟨vs', h1, hr⟩ := ok_resL (n := fn.ntmps) (Good := goodL vs) (by rw [hbad]; exact goodL_none vs) hty (k := some) hres
  have h1 : some vs' = some vs := h1
  cases h1
  refine ⟨p1, p2, fun F g w vals hd hl hs0 hfr => ?_⟩
  have hp := xpre_start hl hn hs0
  have hp' : XPre fn.ntmps R (join (hof H) F) g { tmps := vals ++ Array.replicate (fn.ntmps - vals.size) undef, defers := [] } w := by
    refine ⟨hp.defers, hp.size, fun i => ?_, hp.sim⟩
    rcases hR i with h | h
    · rw [h]; simp only [Rep]
    · rw [h]; exact hp.regs i
  refine calls_of_wp hfn hcb (wp_mono (p3 F g _ w hd hp' hfr) ?_)
  rintro e' act' w' ⟨rfl, g', hx, hp'⟩
  obtain ⟨us, q1, q2⟩ := hr F g' act' w' hp'
  have hr := results_run q1
  have hout : (results fn act'.tmps).run P w' = .ok (resOf us) w' := hr
  rcases he with rfl | rfl <;> exact ⟨hp'.defers, _, hout, _, g', rfl, hx, rep_results1 q2, hp'.sim⟩
end Go.Ex
set_option maxRecDepth 100000
namespace Go.Ex
open Go Go.Am Go.Proofs
def dRow (n : Nat) (x : Nat → Int) : List (Nat × List AV) := (List.range n).map fun i => (3000 + 3 * i, [ivv (x i)])
def dInO (n : Nat) : List (Nat × List AV) := match n with | 0 => [] | k + 1 => [(3002 + 3 * k, (List.range (k + 1)).map fun i => .vwn (3000 + 3 * i) 1 0 1)]
def dIn (n : Nat) : AV := match n with | 0 => .raw (.slice none 0 0) | k + 1 => .vwn (3002 + 3 * k) 1 0 (k + 1)
noncomputable def yv (x : Nat → Int) (i : Nat) : Int := Nat.rec (motive := fun _ => Int) (W64 (W64 (x 0 * x 0) + 1)) (fun i ih => W64 (W64 (x (i + 1) * x (i + 1)) + ih)) i
noncomputable def dOut (n : Nat) (x : Nat → Int) : List (Nat × List AV) := (List.range n).map fun i => (4265 + 26 * i, [ivv (yv x i)])
def dOutO (n : Nat) : List (Nat × List AV) := match n with | 0 => [] | k + 1 => [(4267 + 26 * k, (List.range (k + 1)).map fun i => .vwn (4265 + 26 * i) 1 0 1)]
def dOu (n : Nat) : AV := match n with | 0 => .raw (.slice none 0 0) | k + 1 => .vwn (4267 + 26 * k) 1 0 (k + 1)
def xv (v : List (List Int)) (i : Nat) : Int := vn v i 0
def dHol (n : Nat) : List (Nat × PX) := (List.range n).map fun i => (3000 + 3 * i, .cel [.h])
noncomputable def dAll (n : Nat) (x : Nat → Int) : List (Nat × List AV) := dRow n x ++ (dOut n x ++ dOutO n)
noncomputable def tpl30 (n : Nat) : Tpl := ⟨[.vwn 3643 6 0 1, dIn n], check4.outs ++ celL (dInO n), dHol n, 3943, fun _ => .tup [dOu n, ivv 0], fun v => celL (dAll n (xv v)), 5282⟩
noncomputable def tpl14 (n : Nat) : Tpl := ⟨[.str [110, 111, 100, 101, 32, 102, 40, 120, 58, 32, 105, 110, 116, 41, 32, 114, 101, 116, 117, 114, 110, 115, 32, 40, 121, 58, 32, 105, 110, 116, 41, 59, 32, 108, 101, 116, 32, 121, 32, 61, 32, 120, 32, 42, 32, 120, 32, 43, 32, 40, 49, 32, 102, 98, 121, 32, 121, 41, 59, 32, 116, 101, 108], dIn n], celL (dInO n), dHol n, 3120, fun _ => .tup [dOu n, .agg [ivv 0, ivv 0]], fun v => celL (dAll n (xv v)), 5282⟩
noncomputable abbrev c30 : Code := bodyOf Tryz.f30
noncomputable abbrev b4 : Code := bodyOf Tryz.f4
noncomputable def cRn (k : Nat) (c : Code) : Code := Nat.rec (motive := fun _ => Code → Code) (fun c => c) (fun _ ih c => ih (cR c)) k c
theorem args2 (x0 x1 : AV) : ∀ i, rg (rL [(0, x0), (1, x1)]) i = .unk ∨ rg (rL [(0, x0), (1, x1)]) i = rg (T.putL .nil 0 [x0, x1]) i := fun i => by
  rcases rL_get [(0, x0), (1, x1)] i with h | ⟨p, hp, e1, e2⟩
  · exact .inl h
  · right
    rw [e2]
    simp only [List.mem_cons, List.not_mem_nil, or_false] at hp
    rcases hp with rfl | rfl
    · subst e1; rfl
    · subst e1; rfl
noncomputable def litQ : T (SumF Oc) := ((((T.nil : T (SumF Oc)).put 65 (sLits [count4] none)).put 66 (sLits [begun4] none)).put 67 (sTpls tkL none))
theorem tplsAt {ρ : Type} {Good : ρ → Prop} {z : ρ} {f : FuncId} (nf : ¬ Good z) (hF : FuncT Tryz.prog f) {l : List Tpl} (h : ∀ L ∈ l, TplOk Tryz.prog f L) : SumAt Good Tryz.prog f (sTpls l z) := fun args H a k hg => tpls_ok nf hF h hg
theorem one_ok {α : Type} {p : α → Prop} {x : α} (h : p x) : ∀ y ∈ [x], p y := fun y hy => by simp only [List.mem_cons, List.not_mem_nil, or_false] at hy; subst hy; exact h
theorem litQ_ok {e : Exit} {rs : List (Nat × AV)} {outs : List (Nat × List AV)} : Lts (ocG e rs outs) litQ :=
  lts_put (lts_put (lts_put lts_nil (litsAt (ocG_none _ _ _) ⟨Tryz.call65⟩ (one_ok count4_ok))) (litsAt (ocG_none _ _ _) ⟨Tryz.call66⟩ (one_ok begun4_ok))) (tplsAt (ocG_none _ _ _) ⟨Tryz.call67⟩ tkL_ok)
noncomputable abbrev xQ (c : Code) (R : T AV) (H : T XO) (a : Nat) (k : C Oc) : Oc := exec c (envL (none : Oc) litQ) (calls (envL (none : Oc) litQ) 1000000 1000) 1000000 R H a k
theorem nodeQ {c : Code} {e : Exit} {R : T AV} {H : T XO} {a b0 : Nat} {rs : List (Nat × AV)} {outs : List (Nat × List AV)} (hw : codeWfB 49 c = true)
    (h : xQ c R H a (kOc (rs.map (fun p => p.1)) (outs.map (fun p => p.1)) b0) = some (e, rs.map (fun p => p.2), outs.map (fun p => some p.2), true)) : CodeS Tryz.prog 49 c R H a e (rL rs) (putAll .nil (celL outs)) b0 :=
  node_ok (ocG_none _ _ _) (envL_ok _ litQ).ty (callsL_ok (ocG_none _ _ _) litQ_ok 1000000 1000) follows_mixed hw h
def r30 (n : Nat) : List (Nat × AV) := [(0, .vwn 3643 6 0 1), (1, dIn n)]
noncomputable def ck4 : List (Nat × List AV) := check4.outs.map fun p => (p.1, match p.2 with | .cel xs => xs | _ => [])
noncomputable def o30 (n : Nat) (x : Nat → Int) : List (Nat × List AV) := ck4 ++ dInO n ++ dRow n x
def mO : List (Nat × List AV) := [(3946, [.str [120], ivv 2, .str [], .raw (.bool false), ivv 7]), (3972, [.str [102], .vwn 3946 5 0 1, .vwn 3948 5 0 1, .vwn 3949 5 0 0, .vwn 3951 7 0 1, ivv 0])]
noncomputable def z30 (n : Nat) (x : Nat → Int) : List (Nat × List AV) := ck4 ++ dInO n ++ dAll n x
noncomputable abbrev h30 (n : Nat) (v : List (List Int)) : T XO := putAll .nil ((tpl30 n).keep ++ fillAll (tpl30 n).holes v)
noncomputable abbrev p30 (n : Nat) (x : Nat → Int) : T XO := putAll .nil (celL (o30 n x))
theorem wf30 : codeWfB 49 (cL c30) = true ∧ codeWfB 49 (cL (cRn 1 c30)) = true ∧ codeWfB 49 (cL (cRn 2 c30)) = true ∧ codeWfB 49 (cL (cRn 3 c30)) = true ∧ codeWfB 49 (cRn 4 c30) = true := ⟨by kernel_rfl, by kernel_rfl, by kernel_rfl, by kernel_rfl, by kernel_rfl⟩
theorem c30_eq : c30 = Code.seq (cL c30) (Code.seq (cL (cRn 1 c30)) (Code.seq (cL (cRn 2 c30)) (Code.seq (cL (cRn 3 c30)) (cRn 4 c30)))) := by kernel_rfl
abbrev rM (n : Nat) : List (Nat × AV) := r30 n ++ [(6, .ptr 3972 0)]
abbrev rZ (n : Nat) : List (Nat × AV) := [(4, dOu n), (5, ivv 0)]
theorem run30_ok {n : Nat}
    (h1 : ∀ v, xQ (cL c30) (rL (r30 n)) (h30 n v) 3943 (kOc ((r30 n).map (fun p => p.1)) ((o30 n (xv v)).map (fun p => p.1)) 3943) = some (.normal, (r30 n).map (fun p => p.2), (o30 n (xv v)).map (fun p => some p.2), true))
    (h2 : ∀ x, xQ (cL (cRn 1 c30)) (rL (r30 n)) (p30 n x) 3943 (kOc ((r30 n).map (fun p => p.1)) ((o30 n x).map (fun p => p.1)) 3943) = some (.normal, (r30 n).map (fun p => p.2), (o30 n x).map (fun p => some p.2), true))
    (h3 : ∀ x, xQ (cL (cRn 2 c30)) (rL (r30 n)) (p30 n x) 3943 (kOc ((rM n).map (fun p => p.1)) ((o30 n x ++ mO).map (fun p => p.1)) 3973) = some (.normal, (rM n).map (fun p => p.2), (o30 n x ++ mO).map (fun p => some p.2), true))
    (h4 : ∀ x, xQ (cL (cRn 3 c30)) (rL (rM n)) (putAll .nil (celL (o30 n x ++ mO))) 3973 (kOc ((r30 n).map (fun p => p.1)) ((o30 n x).map (fun p => p.1)) 4013) = some (.normal, (r30 n).map (fun p => p.2), (o30 n x).map (fun p => some p.2), true))
    (h5 : ∀ x, xQ (cRn 4 c30) (rL (r30 n)) (p30 n x) 4013 (kOc ((rZ n).map (fun p => p.1)) ((z30 n x).map (fun p => p.1)) 5282) = some (.ret, (rZ n).map (fun p => p.2), (z30 n x).map (fun p => some p.2), true))
    (hz : ∀ v, celL (z30 n (xv v)) = (tpl30 n).keep ++ (tpl30 n).outs v) (hr : ∀ x, resL Tryz.f30.results.toList (rL (rZ n)) (putAll .nil (celL (z30 n x))) (envL (none : Option (List AV)) .nil) some = some [dOu n, ivv 0])
    (hc : ∀ v, (tpl30 n).holes.all (fun p => ((tpl30 n).outs v).any (fun q => Nat.beq q.1 p.1)) = true) (ha : ∀ v, (tpl30 n).keep.all (fun p => ((tpl30 n).outs v).all (fun q => !Nat.beq q.1 p.1)) = true) : TplOk Tryz.prog 30 (tpl30 n) := by
  refine ⟨fun v => ?_, hc, ha⟩
  have hb : CodeS Tryz.prog 49 c30 (rL (r30 n)) (h30 n v) 3943 .ret (rL (rZ n)) (putAll .nil (celL (z30 n (xv v)))) 5282 := by
    rw [c30_eq]
    exact codeS_seq (nodeQ wf30.1 (h1 v)) (codeS_seq (nodeQ wf30.2.1 (h2 _)) (codeS_seq (nodeQ wf30.2.2.1 (h3 _)) (codeS_seq (nodeQ wf30.2.2.2.1 (h4 _)) (nodeQ wf30.2.2.2.2 (h5 _)))))
  have := callS_of (fn := Tryz.f30) (c := c30) Tryz.func30 (by kernel_rfl) (args := [.vwn 3643 6 0 1, dIn n]) hb (envL_ok (none : Option (List AV)) .nil).ty rfl (.inr rfl) (by simp) (args2 _ _) (hr _)
  rw [hz v] at this
  exact this
noncomputable def lit14 (n : Nat) : T (SumF Oy) := (((T.nil : T (SumF Oy)).put 20 (sLits [check4] none)).put 30 (sTpls [tpl30 n] none))
theorem run14_ok {n : Nat} (h30 : TplOk Tryz.prog 30 (tpl30 n))
    (h : ∀ v, callO (envL (none : Oy) (lit14 n)) (calls (envL (none : Oy) (lit14 n)) 1000000 1000) 1000000 14 (tpl14 n).args (putAll .nil ((tpl14 n).keep ++ fillAll (tpl14 n).holes v)) (tpl14 n).a (kOy (((tpl14 n).keep ++ (tpl14 n).outs v).map (fun p => p.1)) (tpl14 n).b)
      = some ((tpl14 n).x v, ((tpl14 n).keep ++ (tpl14 n).outs v).map (fun p => some p.2), true))
    (hc : ∀ v, (tpl14 n).holes.all (fun p => ((tpl14 n).outs v).any (fun q => Nat.beq q.1 p.1)) = true) (ha : ∀ v, (tpl14 n).keep.all (fun p => ((tpl14 n).outs v).all (fun q => !Nat.beq q.1 p.1)) = true) : TplOk Tryz.prog 14 (tpl14 n) :=
  ⟨fun v => symY_ok (callsB_ok (oyG_none _ _) (lts_put (lts_put lts_nil (litsAt (oyG_none _ _) ⟨Tryz.call20⟩ (one_ok check4_ok))) (tplsAt (oyG_none _ _) ⟨Tryz.call30⟩ (one_ok h30))) 1000000 1000) (h v), hc, ha⟩
end Go.Ex
set_option maxRecDepth 100000
namespace Go.Ex
open Go Go.Am Go.Proofs
def gW (x m : Int) : Int := W64 (W64 (x * x) + m)
noncomputable def yg (g : Int → Int → Int) (x : Nat → Int) (i : Nat) : Int := Nat.rec (motive := fun _ => Int) (g (x 0) 1) (fun i ih => g (x (i + 1)) ih) i
theorem yg_eq : yg gW = yv := rfl
noncomputable def gOut (g : Int → Int → Int) (n : Nat) (x : Nat → Int) : List (Nat × List AV) := (List.range n).map fun i => (4265 + 26 * i, [ivv (yg g x i)])
noncomputable def gAll (g : Int → Int → Int) (n : Nat) (x : Nat → Int) : List (Nat × List AV) := dRow n x ++ (gOut g n x ++ dOutO n)
theorem gAll_eq (n : Nat) (x : Nat → Int) : gAll gW n x = dAll n x := rfl
noncomputable def tplG (g : Int → Int → Int) (n : Nat) : Tpl := ⟨[.str [110, 111, 100, 101, 32, 102, 40, 120, 58, 32, 105, 110, 116, 41, 32, 114, 101, 116, 117, 114, 110, 115, 32, 40, 121, 58, 32, 105, 110, 116, 41, 59, 32, 108, 101, 116, 32, 121, 32, 61, 32, 120, 32, 42, 32, 120, 32, 43, 32, 40, 49, 32, 102, 98, 121, 32, 121, 41, 59, 32, 116, 101, 108], dIn n], celL (dInO n), dHol n, 3120, fun _ => .tup [dOu n, .agg [ivv 0, ivv 0]], fun v => celL (gAll g n (xv v)), 5282⟩
theorem tplG_ok {g : Int → Int → Int} (hg : g = gW) {n : Nat} (h : TplOk Tryz.prog 14 (tpl14 n)) : TplOk Tryz.prog 14 (tplG g n) := by subst hg; exact h
def spG0 (g : Int → Int → Int) : Tpl := { sp0 with outs := fun v => spO 0 (vn v 0 0) 0 (g (vn v 0 0) 1) }
def spGS (g : Int → Int → Int) (i : Nat) : Tpl := { spS i with outs := fun v => spO i (vn v 0 0) (vn v 2 0) (g (vn v 0 0) (vn v 2 1)) }
def spGL (g : Int → Int → Int) : List Tpl := spG0 g :: (List.range' 1 39).map (spGS g)
theorem spGL_eq : spGL gW = spL := rfl
theorem spGL_ok {g : Int → Int → Int} (hg : g = gW) : ∀ L ∈ spGL g, TplOk Tryz.prog 12 L := by subst hg; exact spL_ok
def dXs (n : Nat) (x : Nat → Int) : List AV := (List.range n).map fun i => ivv (x i)
noncomputable def litR (g : Int → Int → Int) (n : Nat) : T (SumF Oc) := (((((T.nil : T (SumF Oc)).put 7 (sLits [awake1] none)).put 14 (sTpls [tplG g n] none)).put 9 (sLits [comp4] none)).put 10 (sLits [new4] none)).put 12 (sTpls (spGL g) none)
theorem litR_ok {g : Int → Int → Int} (hg : g = gW) {n : Nat} (h : TplOk Tryz.prog 14 (tpl14 n)) {e : Exit} {rs : List (Nat × AV)} {outs : List (Nat × List AV)} : Lts (ocG e rs outs) (litR g n) :=
  lts_put (lts_put (lts_put (lts_put (lts_put lts_nil (litsAt (ocG_none _ _ _) ⟨Tryz.call7⟩ (one_ok awake1_ok))) (tplsAt (ocG_none _ _ _) ⟨Tryz.call14⟩ (one_ok (tplG_ok hg h)))) (litsAt (ocG_none _ _ _) ⟨Tryz.call9⟩ (one_ok comp4_ok))) (litsAt (ocG_none _ _ _) ⟨Tryz.call10⟩ (one_ok new4_ok))) (tplsAt (ocG_none _ _ _) ⟨Tryz.call12⟩ (spGL_ok hg))
noncomputable abbrev xR (g : Int → Int → Int) (n : Nat) (c : Code) (R : T AV) (H : T XO) (a : Nat) (k : C Oc) : Oc := exec c (envL (none : Oc) (litR g n)) (calls (envL (none : Oc) (litR g n)) 1000000 1000) 1000000 R H a k
theorem nodeR {g : Int → Int → Int} (hg : g = gW) {n : Nat} (h14 : TplOk Tryz.prog 14 (tpl14 n)) {c : Code} {e : Exit} {R : T AV} {H : T XO} {a b0 : Nat} {rs : List (Nat × AV)} {outs : List (Nat × List AV)} (hw : codeWfB 118 c = true)
    (h : xR g n c R H a (kOc (rs.map (fun p => p.1)) (outs.map (fun p => p.1)) b0) = some (e, rs.map (fun p => p.2), outs.map (fun p => some p.2), true)) : CodeS Tryz.prog 118 c R H a e (rL rs) (putAll .nil (celL outs)) b0 :=
  node_ok (ocG_none _ _ _) (envL_ok _ (litR g n)).ty (callsL_ok (ocG_none _ _ _) (litR_ok hg h14) 1000000 1000) follows_mixed hw h
noncomputable def co4 : List (Nat × List AV) := comp4.outs.map fun p => (p.1, match p.2 with | .cel xs => xs | _ => [])
def pr4 : List AV := [.vwn 7372 1 0 1, .vwn 8163 1 0 2, .vwn 8138 1 0 16, .vwn 8077 1 0 4, .vwn 8061 1 0 2, .vwn 8194 4 0 28]
def ma4 : List (Nat × List AV) := spK.map (fun p => (p.1, match p.2 with | .cel xs => xs | _ => [])) ++ [(8685, spM 0), (8686, [ivv 0, ivv 0, ivv 0, ivv 0])]
def e2 (n : Nat) (xs : List AV) : List (Nat × AV) := [(0, .sls n xs)]
def e3 (n : Nat) (x : Nat → Int) : List (Nat × AV) := e2 n (dXs n x) ++ [(3, .raw (.slice none 0 0))]
def e4 (n : Nat) (x : Nat → Int) : List (Nat × AV) := e2 n (dXs n x) ++ [(3, dIn n)]
def e5 (n : Nat) (x : Nat → Int) : List (Nat × AV) := e4 n x ++ [(5, dOu n), (6, .ptr 5282 0)]
def e6 (n : Nat) (x : Nat → Int) : List (Nat × AV) := e5 n x ++ [(7, .ptr 8197 0), (8, .ptr 8198 0)]
def e7 (n : Nat) (x : Nat → Int) : List (Nat × AV) := e4 n x ++ [(5, dOu n), (7, .ptr 8197 0)]
def e8 (n : Nat) (x : Nat → Int) : List (Nat × AV) := e4 n x ++ [(5, dOu n), (9, .ptr 8685 0), (10, ivv 0)]
def e9 (n : Nat) (x : Nat → Int) : List (Nat × AV) := e4 n x ++ [(5, dOu n), (9, .ptr 8685 0)]
def e10 (n : Nat) (x : Nat → Int) : List (Nat × AV) := e4 n x ++ [(5, dOu n), (9, .ptr 8685 0), (11, ivv 0)]
noncomputable def g4 (n : Nat) (x : Nat → Int) : List (Nat × List AV) := dInO n ++ dRow n x
noncomputable def g5a (g : Int → Int → Int) (n : Nat) (x : Nat → Int) : List (Nat × List AV) := dInO n ++ gAll g n x
noncomputable def g5 (g : Int → Int → Int) (n : Nat) (x : Nat → Int) : List (Nat × List AV) := g5a g n x ++ [(5282, [ivv 0, ivv 0])]
noncomputable def g6 (g : Int → Int → Int) (n : Nat) (x : Nat → Int) : List (Nat × List AV) := g5 g n x ++ co4 ++ [(8197, pr4), (8198, [ivv 0, ivv 0])]
noncomputable def g7 (g : Int → Int → Int) (n : Nat) (x : Nat → Int) : List (Nat × List AV) := g5a g n x ++ co4 ++ [(8197, pr4)]
noncomputable def g8 (g : Int → Int → Int) (n : Nat) (x : Nat → Int) : List (Nat × List AV) := g5a g n x ++ ma4
noncomputable abbrev ph (l : List (Nat × List AV)) : T XO := putAll .nil (celL l)
abbrev rT : List (Nat × AV) := [(2, .raw (.bool true))]
abbrev Rn (g : Int → Int → Int) (n : Nat) (c : Code) (R : List (Nat × AV)) (H : List (Nat × List AV)) (a : Nat) (e : Exit) (R' : List (Nat × AV)) (H' : List (Nat × List AV)) (b : Nat) : Prop :=
  xR g n c (rL R) (ph H) a (kOc (R'.map (fun p => p.1)) (H'.map (fun p => p.1)) b) = some (e, R'.map (fun p => p.2), H'.map (fun p => some p.2), true)
abbrev oF : Oc := some (.ret, [.raw (.bool false)], [], true)
abbrev oT : Oc := some (.ret, [.raw (.bool true)], [], true)
noncomputable def tst (y : Nat → Int) (k : Nat) : Nat → Oc := Nat.rec (motive := fun _ => Nat → Oc) (fun _ => oT) (fun _ ih i => ifb (decide (y i ≠ y i)) oF (ifb (decide (y (i + 1) ≠ y (i + 1))) oF (ih (i + 1)))) k
noncomputable def tsts (y : Nat → Int) (n : Nat) : Oc := Nat.rec (motive := fun _ => Oc) oT (fun k _ => ifb (decide (y 0 ≠ y 0)) oF (tst y k 0)) n
theorem tst_T (y : Nat → Int) : ∀ k i, tst y k i = oT
  | 0, i => rfl
  | k + 1, i => by
    show ifb (decide (y i ≠ y i)) oF (ifb (decide (y (i + 1) ≠ y (i + 1))) oF (tst y k (i + 1))) = oT
    rw [decide_eq_false (show ¬ y i ≠ y i from fun h => h rfl), decide_eq_false (show ¬ y (i + 1) ≠ y (i + 1) from fun h => h rfl), tst_T y k (i + 1)]
    rfl
theorem tsts_T (y : Nat → Int) : ∀ n, tsts y n = oT
  | 0 => rfl
  | n + 1 => by
    show ifb (decide (y 0 ≠ y 0)) oF (tst y n 0) = oT
    rw [decide_eq_false (show ¬ y 0 ≠ y 0 from fun h => h rfl), tst_T y n 0]
    rfl
noncomputable abbrev k4 (k : Nat) : Code := cL (cRn k b4)
theorem wf4 : codeWfB 118 (cL b4) = true ∧ codeWfB 118 (k4 1) = true ∧ codeWfB 118 (k4 2) = true ∧ codeWfB 118 (k4 3) = true ∧ codeWfB 118 (k4 4) = true ∧ codeWfB 118 (k4 5) = true ∧ codeWfB 118 (k4 6) = true ∧ codeWfB 118 (k4 7) = true ∧ codeWfB 118 (k4 8) = true ∧ codeWfB 118 (k4 9) = true ∧ codeWfB 118 (k4 10) = true ∧ codeWfB 118 (k4 11) = true ∧ codeWfB 118 (cRn 12 b4) = true :=
  ⟨by kernel_rfl, by kernel_rfl, by kernel_rfl, by kernel_rfl, by kernel_rfl, by kernel_rfl, by kernel_rfl, by kernel_rfl, by kernel_rfl, by kernel_rfl, by kernel_rfl, by kernel_rfl, by kernel_rfl⟩
theorem b4_eq : b4 = Code.seq (cL b4) (Code.seq (k4 1) (Code.seq (k4 2) (Code.seq (k4 3) (Code.seq (k4 4) (Code.seq (k4 5) (Code.seq (k4 6) (Code.seq (k4 7) (Code.seq (k4 8) (Code.seq (k4 9) (Code.seq (k4 10) (Code.seq (k4 11) (cRn 12 b4)))))))))))) := by kernel_rfl
end Go.Ex
