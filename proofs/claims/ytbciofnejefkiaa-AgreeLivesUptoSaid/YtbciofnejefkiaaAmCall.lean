/-
  The abstract machine: contracts of functions, calls, loops, sealing, make, literals. No program in sight.
-/
import Derived.Test.YtbciofnejefkiaaAmVar
set_option linter.unusedSimpArgs false
set_option linter.unusedVariables false
namespace Go.Am
open Go
section
variable {P : Program} {n : Nat} {K : Exit -> Regs -> AHeap -> Prop} {R : Regs} {H : AHeap} {ops : Array Oper} {rest : List Oper} {ty : TypeId} {d : Tmp} {pos : String} {af : Array Edge}
def ACalls (P : Program) (f : FuncId) (args : List AV) (H : AHeap) (Kc : AV -> AHeap -> Prop) : Prop :=
  ∀ g w (vals : Array Value), RepL g args vals.toList -> Sim g H w ->
    Calls P f vals w fun e w' => ∃ v r H' g', e = .returned v /\ g.le g' /\ Rep g' r v /\ Sim g' H' w' /\ Kc r H'
theorem ACalls.mono {f : FuncId} {args : List AV} {Kc Kc' : AV -> AHeap -> Prop} (h : ACalls P f args H Kc) (hk : ∀ r H', Kc r H' -> Kc' r H') : ACalls P f args H Kc' :=
  fun g w vals h1 h2 => (h g w vals h1 h2).mono fun _ _ ⟨v, r, H', g', e1, e2, e3, e4, e5⟩ => ⟨v, r, H', g', e1, e2, e3, e4, hk _ _ e5⟩
class FuncT (P : Program) (f : FuncId) : Prop where
  h : ∀ (args : Array Value) (w : World), (callFunc f args).run P w = .ok (.enter f args) w
theorem wz {g : Gh} : ∀ {xs ys : List AV} {l m : List Value}, RepL g xs l -> RepL g ys m -> RepL g (xs ++ ys) (l ++ m)
  | [], ys, l, m, h, k => by simp only [RepL] at h; subst h; simpa using k
  | x :: xs, ys, l, m, h, k => by
    simp only [RepL] at h; obtain ⟨u, us, rfl, h1, h2⟩ := h; simp only [List.cons_append, RepL]; exact ⟨u, us ++ m, rfl, h1, wz h2 k⟩
theorem acd {g : Gh} {a : Act} {w : World} (hp : Pre n R H g a w) : ∀ l : List Operand, RepL g (l.map (am R)) (l.map a.eval)
  | [] => by simp only [List.map_nil, RepL]
  | x :: l => by simp only [List.map_cons, RepL]; exact ⟨_, _, rfl, rv hp rfl, acd hp l⟩
theorem af9 {f : FuncId} [hF : FuncT P f] {fo : Operand} {args : Array Operand} {ats : Array TypeId} {first caps avs : List AV} {g : Gh} {a : Act} {w : World} (hp : Pre n R H g a w) (hf : am R fo = .fnc (.func f) first caps)
    (hargs : args.toList.map (am R) = avs) (o : Oper) (ho : o.op = .call { callee := .value fo, args := args, argTypes := ats }) :
    ∃ vals : Array Value, (execOp a.eval o).run P w = .ok (.enter f vals) w /\ RepL g (first ++ avs ++ caps) vals.toList := by
  have hv := rv hp hf; simp only [Rep] at hv; obtain ⟨x, y, he, h1, h2⟩ := hv; refine ⟨x ++ args.map a.eval ++ y, ?_, ?_⟩
  · simp [execOp, ho, resolve, he, Deferred.ofValue, invoke, hF.h]
  · simp only [Array.toList_append, Array.toList_map]
    exact wz (wz h1 (hargs ▸ acd hp _)) h2
theorem aeb {f : FuncId} [hF : FuncT P f] {fo : Operand} {args : Array Operand} {ats : Array TypeId} {first caps avs : List AV} {Kc : AV -> AHeap -> Prop} (hdn : Nat.blt d n = true) (hf : am R fo = .fnc (.func f) first caps) (hargs : args.toList.map (am R) = avs)
    (hc : ACalls P f (first ++ avs ++ caps) H Kc) (hk : ∀ r H', Kc r H' -> AWL P n ops rest K ((d, r) :: R) H') :
    AWL P n ops (⟨some d, .call { callee := .value fo, args := args, argTypes := ats }, ty, pos, af, none⟩ :: rest) K R H := fun g a w hp => by
  obtain ⟨vals, hr, hl⟩ := af9 (P := P) hp hf hargs ⟨some d, .call { callee := .value fo, args := args, argTypes := ats }, ty, pos, af, none⟩ rfl; refine wpList_plain rfl fun K' hK' => ?_
  rw [Oper.wp, hr, Oper.upon_enter]; refine (hc g w vals hl hp.sim).mono ?_; rintro e w' ⟨v, r, H', g', rfl, e2, e3, e4, e5⟩; exact hK' _ _ (qn (fun _ _ _ hq => hq.le e2) _ _ _ (hk r H' e5 g' _ w' (hp.put e2 hdn e3 e4)))
theorem amw {f : FuncId} [hF : FuncT P f] {args : Array Operand} {ats : Array TypeId} {avs : List AV} {Kc : AV -> AHeap -> Prop} (hdn : Nat.blt d n = true) (hargs : args.toList.map (am R) = avs)
    (hc : ACalls P f avs H Kc) (hk : ∀ r H', Kc r H' -> AWL P n ops rest K ((d, r) :: R) H') :
    AWL P n ops (⟨some d, .call { callee := .value (.func f), args := args, argTypes := ats }, ty, pos, af, none⟩ :: rest) K R H :=
  aeb hdn (first := []) (caps := []) rfl hargs (by simpa using hc) hk
theorem alr {f : FuncId} [hF : FuncT P f] {fo : Operand} {args : Array Operand} {ats : Array TypeId} {first caps avs : List AV} {x : AV} (hf : am R fo = .fnc (.func f) first caps) (hargs : args.toList.map (am R) = avs)
    (hc : ACalls P f (first ++ avs ++ caps) H fun r H' => r = x /\ H' = H) : Stp P n (.call { callee := .value fo, args := args, argTypes := ats }) ty R H x := fun o ho ht g a w hp Kc Q hk => by
  obtain ⟨vals, hr, hl⟩ := af9 (P := P) hp hf hargs o ho; rw [Oper.wp, hr, Oper.upon_enter]; refine (hc g w vals hl hp.sim).mono ?_; rintro e w' ⟨v, r, H', g', rfl, e2, e3, e4, rfl, rfl⟩; exact hk v w' g' e2 e3 e4
theorem aq6 {f : FuncId} [hF : FuncT P f] {args : Array Operand} {ats : Array TypeId} {avs : List AV} {x : AV} (hargs : args.toList.map (am R) = avs)
    (hc : ACalls P f avs H fun r H' => r = x /\ H' = H) : Stp P n (.call { callee := .value (.func f), args := args, argTypes := ats }) ty R H x :=
  alr (first := []) (caps := []) rfl hargs (by simpa using hc)
def argRegs : List AV -> Nat -> Regs
  | [], _ => []
  | x :: xs, i => (i, x) :: argRegs xs (i + 1)
theorem ajh : ∀ (xs : List AV) (k i : Nat), rget (argRegs xs k) i = if k <= i then (xs[i - k]?).getD .unk else .unk
  | [], k, i => by simp [argRegs, rget]
  | x :: xs, k, i => by
    simp only [argRegs, rget]; by_cases h : k = i
    · subst h; simp
    · have hb : Nat.beq k i = false := by
        cases hb : Nat.beq k i with
        | false => rfl
        | true => exact absurd (Nat.eq_of_beq_eq_true hb) h
      rw [hb]; simp only [Bool.false_eq_true, if_false, ajh xs (k + 1) i]; by_cases h2 : k <= i
      · rw [if_pos (by omega), if_pos h2, show i - k = (i - (k + 1)) + 1 from by omega, List.getElem?_cons_succ]
      · rw [if_neg (by omega), if_neg h2]
def Ret (P : Program) (fn : Func) (R : Regs) (H : AHeap) (r : AV) : Prop :=
  ∀ g a w, Pre fn.ntmps R H g a w -> ∃ v, (results fn a.tmps).run P w = .ok v w /\ Rep g r v
def kret (P : Program) (fn : Func) (Kc : AV -> AHeap -> Prop) : Exit -> Regs -> AHeap -> Prop :=
  fun e R H => (e = .ret \/ e = .normal) /\ ∃ R' H' r, Ent R H R' H' /\ Ret P fn R' H' r /\ Kc r H'
theorem rf {f : FuncId} {fn : Func} {c : Code} {args : List AV} {Kc : AV -> AHeap -> Prop} (hf : P.funcs[f]? = some fn) (hb : fn.body = some c) (hn : args.length <= fn.ntmps)
    (h : AW P fn.ntmps c (kret P fn Kc) (argRegs args 0) H) : ACalls P f args H Kc := fun g w vals hl hs => by
  have hlen := pf _ _ hl; rw [Array.length_toList] at hlen; refine calls_of_wp hf hb (wp_mono (h g _ w ⟨rfl, ?_, ?_, hs⟩) ?_)
  · simp; omega
  · intro i
    rw [ajh]; simp only [Nat.zero_le, if_true, Nat.sub_zero]
    cases hi : args[i]? with
    | none => simp [Rep]
    | some x =>
      obtain ⟨u, hu, hr⟩ := ((ny _ _).1 hl).2 i x hi; rw [Array.getElem?_toList] at hu; have hlt := (Array.getElem?_eq_some_iff.1 hu).1; rw [Array.getD_eq_getD_getElem?, Array.getElem?_append_left hlt, hu]; simpa using hr
  · rintro e a' w' ⟨R', H', g', ⟨he, R2, H2, r, h1, h2, h3⟩, hle, hp⟩
    obtain ⟨g'', l2, r2, s2⟩ := h1 g' a'.tmps w' hp.regs hp.sim; obtain ⟨v, hv, hrep⟩ := h2 g'' a' w' ⟨hp.defers, hp.size, r2, s2⟩; rcases he with rfl | rfl <;> exact ⟨hp.defers, v, hv, v, r, H2, g'', rfl, hle.trans l2, hrep, s2, h3⟩
theorem ej {f : FuncId} {fn : Func} {c : Code} {x0 : AV} {Kc : AV -> AHeap -> Prop} (hf : P.funcs[f]? = some fn) (hb : fn.body = some c) (hn : 1 <= fn.ntmps)
    (h : AW P fn.ntmps c (kret P fn Kc) [(0, x0)] H) : ACalls P f [x0] H Kc := rf hf hb (by simpa using hn) h
theorem gm {f : FuncId} {fn : Func} {c : Code} {x0 x1 : AV} {Kc : AV -> AHeap -> Prop} (hf : P.funcs[f]? = some fn) (hb : fn.body = some c) (hn : 2 <= fn.ntmps)
    (h : AW P fn.ntmps c (kret P fn Kc) [(0, x0), (1, x1)] H) : ACalls P f [x0, x1] H Kc := rf hf hb (by simpa using hn) h
theorem lz {f : FuncId} {fn : Func} {c : Code} {x0 x1 x2 : AV} {Kc : AV -> AHeap -> Prop} (hf : P.funcs[f]? = some fn) (hb : fn.body = some c) (hn : 3 <= fn.ntmps)
    (h : AW P fn.ntmps c (kret P fn Kc) [(0, x0), (1, x1), (2, x2)] H) : ACalls P f [x0, x1, x2] H Kc := rf hf hb (by simpa using hn) h
theorem ab6 {f : FuncId} {fn : Func} {c : Code} {x0 x1 x2 x3 : AV} {Kc : AV -> AHeap -> Prop} (hf : P.funcs[f]? = some fn) (hb : fn.body = some c) (hn : 4 <= fn.ntmps)
    (h : AW P fn.ntmps c (kret P fn Kc) [(0, x0), (1, x1), (2, x2), (3, x3)] H) : ACalls P f [x0, x1, x2, x3] H Kc := rf hf hb (by simpa using hn) h
theorem aql {f : FuncId} {fn : Func} {c : Code} {x0 x1 x2 x3 x4 : AV} {Kc : AV -> AHeap -> Prop} (hf : P.funcs[f]? = some fn) (hb : fn.body = some c) (hn : 5 <= fn.ntmps)
    (h : AW P fn.ntmps c (kret P fn Kc) [(0, x0), (1, x1), (2, x2), (3, x3), (4, x4)] H) : ACalls P f [x0, x1, x2, x3, x4] H Kc := rf hf hb (by simpa using hn) h
theorem ret1 {fn : Func} {t : Tmp} {r : AV} (h : fn.results = #[.tmp t]) (hr : rget R t = r) : Ret P fn R H r := fun _ _ _ hp => ⟨_, results_tmp h _ _ _, hr ▸ hp.regs t⟩
theorem ret0 {fn : Func} (h : fn.results = #[]) : Ret P fn R H (.tup []) := fun _ _ _ _ => ⟨_, results_none h _ _ _, by simp only [Rep]; exact ⟨#[], rfl, by simp only [RepL]⟩⟩
theorem ret2 {fn : Func} {t u : Tmp} {r s : AV} (h : fn.results = #[.tmp t, .tmp u]) (hr : rget R t = r) (hs : rget R u = s) : Ret P fn R H (.tup [r, s]) := fun _ _ _ hp =>
  ⟨_, results_tmp2 h _ _ _, by simp only [Rep]; exact ⟨_, rfl, by simp only [RepL]; exact ⟨_, _, rfl, hr ▸ hp.regs t, _, _, rfl, hs ▸ hp.regs u, rfl⟩⟩⟩
theorem ret3 {fn : Func} {t u x : Tmp} {r s y : AV} (h : fn.results = #[.tmp t, .tmp u, .tmp x]) (hr : rget R t = r) (hs : rget R u = s) (hy : rget R x = y) : Ret P fn R H (.tup [r, s, y]) := fun _ a _ hp =>
  ⟨.tuple #[a.tmps.getD t undef, a.tmps.getD u undef, a.tmps.getD x undef], by simp [results, h], by simp only [Rep]; exact ⟨_, rfl, by simp only [RepL]; exact ⟨_, _, rfl, hr ▸ hp.regs t, _, _, rfl, hs ▸ hp.regs u, _, _, rfl, hy ▸ hp.regs x, rfl⟩⟩⟩
theorem cv {c : Code} (I : Nat -> Regs -> AHeap -> Prop) (h0 : ∃ m R0 H0, Ent R H R0 H0 /\ I m R0 H0)
    (round : ∀ m R0 H0, I m R0 H0 -> AW P n c (kseq (fun R' H' => ∃ m' R1 H1, m' < m /\ Ent R' H' R1 H1 /\ I m' R1 H1) K) R0 H0) : AW P n (.loop c) K R H := by
  intro g a w hp b k cs
  have key : ∀ m g a w R0 H0, I m R0 H0 -> Pre n R0 H0 g a w ->
      ∃ e a' w', Post n g K e a' w' /\ Arrives P (lone (b.at a (.code c :: .inLoop c :: k)) cs w) b k cs e a' w' := by
    intro m
    induction m using Nat.strongRecOn with
    | _ m ih =>
      intro g a w R0 H0 hI hp; obtain ⟨e, a1, w1, ⟨R', H', g', hk, hle, hp'⟩, harr⟩ := round m R0 H0 hI g a w hp b (.inLoop c :: k) cs
      cases e with
      | normal =>
        obtain ⟨m', R1, H1, hlt, hent, hI'⟩ := hk; obtain ⟨g'', l2, r2, s2⟩ := hent g' a1.tmps w1 hp'.regs hp'.sim; obtain ⟨e2, a2, w2, hq2, harr2⟩ := ih m' hlt g'' a1 w1 R1 H1 hI' ⟨hp'.defers, hp'.size, r2, s2⟩; exact ⟨e2, a2, w2, (hq2.le l2).le hle, .of_steps (Steps.trans harr (.one step_inLoop)) harr2⟩
      | exit id => exact ⟨_, a1, w1, ⟨R', H', g', hk, hle, hp'⟩, .pass (x := .inLoop c) rfl (fun _ _ => .inl (by simp)) harr⟩
      | goto l => exact ⟨_, a1, w1, ⟨R', H', g', hk, hle, hp'⟩, .pass (x := .inLoop c) rfl (fun _ _ => .inl (by simp)) harr⟩
      | ret => exact ⟨_, a1, w1, ⟨R', H', g', hk, hle, hp'⟩, .pass (x := .inLoop c) rfl (fun _ _ => .inl (by simp)) harr⟩
      | panic ch => exact ⟨_, a1, w1, ⟨R', H', g', hk, hle, hp'⟩, .pass (x := .inLoop c) rfl (fun _ _ => .inl (by simp)) harr⟩
      | outgrown => exact ⟨_, a1, w1, ⟨R', H', g', hk, hle, hp'⟩, .pass (x := .inLoop c) rfl (fun _ _ => .inl (by simp)) harr⟩
  obtain ⟨m, R0, H0, hent, hI⟩ := h0; obtain ⟨g1, l1, r1, s1⟩ := hent g a.tmps w hp.regs hp.sim; obtain ⟨e, a', w', hq, harr⟩ := key m g1 a w R0 H0 hI ⟨hp.defers, hp.size, r1, s1⟩; exact ⟨e, a', w', hq.le l1, .of_steps (.one step_loop) harr⟩
theorem arn (H : AHeap) (o : Nat) (x : AO) : (H.set o x) o = some x := by simp [AHeap.set]
theorem ars {H : AHeap} {o : Nat} (h : H o = none) (x : AO) : (H.set o x).erase o = H := by
  funext p
  simp only [AHeap.set, AHeap.erase]; by_cases hp : p = o
  · subst hp; simp [h]
  · simp [hp]
theorem AHeap.set_set (H : AHeap) (o : Nat) (x y : AO) : (H.set o x).set o y = H.set o y := by
  funext p
  simp only [AHeap.set]; split <;> rfl
theorem aru {H : AHeap} {o p : Nat} (x : AO) (h : p ≠ o) : (H.set o x) p = H p := by simp [AHeap.set, h]
theorem AHeap.get_set_of {H : AHeap} {o p : Nat} {x : AO} {y : AO} (hn : H o = none) (h : H p = some y) : (H.set o x) p = some y := by
  rw [aru]
  · exact h
  · rintro rfl; rw [hn] at h; cases h
theorem AHeap.erase_none {H : AHeap} {o : Nat} (h : H o = none) : H.erase o = H := by
  funext p
  simp only [AHeap.erase]; split
  · rename_i e; rw [e, h]
  · rfl
theorem Ent.drop (R : Regs) (H : AHeap) (o : Nat) : Ent R H R (H.erase o) := fun g _ _ h1 h2 => ⟨g, .refl g, h1, h2.erase o⟩
theorem Ent.drop_set (R : Regs) {H : AHeap} {o : Nat} (h : H o = none) (x : AO) : Ent R (H.set o x) R H := by
  have := Ent.drop R (H.set o x) o
  rwa [ars h] at this
theorem Ent.seal {o sz off len i : Nat} {x : AO} (hi : rget R i = .vw o sz off len) (hH : H o = some x) (hm : ∀ es, x ≠ .mpo es) (hl : off + len * sz <= x.len) (hsz : ∀ bs, x = .byt bs -> sz = 1) :
    Ent R H ((i, sealAV len (x.seg off (len * sz))) :: R) (H.erase o) := fun g t w h1 h2 => by
  have hv := h1 i; rw [hi] at hv; simp only [Rep] at hv
  have hget : ∀ (g' : Gh) (y : AV), g.le g' -> Rep g' y (t.getD i undef) -> RegRel g' ((i, y) :: R) t := fun g' y hle hy j => by
    simp only [rget]; by_cases hb : Nat.beq i j = true
    · rw [if_pos hb, <- Nat.eq_of_beq_eq_true hb]; exact hy
    · rw [if_neg hb]; exact Rep.mono hle _ _ (h1 j)
  have hsegm : ∀ es, x.seg off (len * sz) ≠ .mpo es := fun es e => by cases x <;> simp_all [AO.seg]
  have hszs : ∀ bs, x.seg off (len * sz) = .byt bs -> sz = 1 := fun bs e => by cases x <;> simp_all [AO.seg]
  rcases hv with ⟨l, cap, k1, k2, k3, k4⟩ | ⟨k0, a, k2⟩
  · obtain ⟨c, e, fz, q1, q2, q3, q4⟩ := oe h2 hH hm k1
    have hsim := h2.sealObj hH k1 q1; have hle := g.le_seal (h2.apart o x l hH k1) (.cells c e fz); refine ⟨_, hle, hget _ _ hle ?_, hsim⟩; rw [k2]; exact adf (sz := sz) (Gh.seal_self _ _ _) ((q4.seg hl).mono hle) (abe hl hm) hszs k3
  · refine ⟨g, .refl g, hget _ _ (.refl g) ?_, h2.erase o⟩
    subst k0; rw [k2]
    cases x with
    | byt bs => simp [AO.seg, sealAV, Rep]
    | cel xs => simp [AO.seg, sealAV, Rep]
    | mpo es => exact absurd rfl (hm es)
theorem Ent.seal_byt {o i : Nat} {bs : List UInt8} (hi : rget R i = .vw o 1 0 bs.length) (hH : H o = some (.byt bs)) : Ent R H ((i, .bys bs) :: R) (H.erase o) := by
  have := Ent.seal (R := R) (H := H) hi hH (fun _ h => by cases h) (by simp [AO.len]) (fun _ _ => rfl)
  simpa [AO.seg, sealAV] using this
theorem Ent.seal_cel {o sz i m : Nat} {xs : List AV} (hi : rget R i = .vw o sz 0 m) (hH : H o = some (.cel xs)) (hl : xs.length = m * sz) : Ent R H ((i, .sls m xs) :: R) (H.erase o) := by
  have := Ent.seal (R := R) (H := H) hi hH (fun _ h => by cases h) (by simp [AO.len, hl]) (fun _ h => by cases h)
  rw [<- hl] at this; simpa [AO.seg, sealAV] using this
theorem aj2 {z : Array Value} {m i : Nat} (hi : i < m) : (madeCells z m)[i]? = some (z[i % z.size]!) := by
  simp [madeCells, hi]
theorem akl {t e bytes : Nat} [hT : SliceT P t e 1 bytes (.int .u8 0)] {x y : Operand} {kl kc : IntKind} {l c : Nat} {zl zc : Int} [nl : NatOf zl l] [nc : NatOf zc c] (hdn : Nat.blt d n = true) (hx : am R x = .raw (.int kl zl)) (hy : am R y = .raw (.int kc zc)) (hlc : l <= c)
    (hb : bytes * c <= 281474976710656) (h63 : c <= 9223372036854775807) (hk : ∀ o', H o' = none -> AWL P n ops rest K ((d, .vw o' 1 0 l) :: R) (H.set o' (.byt (List.replicate l 0)))) :
    AWL P n ops (⟨some d, .makeSlice t x y, ty, pos, af, none⟩ :: rest) K R H := by
  cases nl.h; cases nc.h
  exact ns rfl rfl hdn fun g a w hp => by
    have hv := rv hp hx; have hu := rv hp hy; simp only [Rep] at hv hu; obtain ⟨inf, i1, i2, i3, i4⟩ := hT.info
    have hb' : (inf.bytes : Int) * (c : Int) <= 281474976710656 := by
      rw [i4]; have h : ((bytes * c : Nat) : Int) <= 281474976710656 := by omega
      rwa [Int.natCast_mul] at h
    have hr := run_make (P := P) w t e inf _ hT.h i1 i2 kl kc l c (by omega) (by omega) hb' (by omega)
    simp only [Int.toNat_natCast, i3, Nat.mul_one] at hr; obtain ⟨o', ho', hl'⟩ := hp.sim.fresh
    refine ⟨.slice (some ⟨w.heap.size, 0, none⟩) l c, w.alloc (.cells (madeCells (Value.cells (.int .u8 0)) c) e), _, .vw o' 1 0 l, _, ?_, g.le_at hl' ⟨w.heap.size, 0, (madeCells (Value.cells (.int .u8 0)) c).size⟩, ?_,
      hp.sim.new (w' := w.alloc (.cells (madeCells (Value.cells (.int .u8 0)) c) e)) (x := .byt (List.replicate l 0)) ⟨rfl, rfl, rfl⟩ rfl (unfrozen00 _) hl' ⟨?_, fun i y hi => ?_⟩, hk o' ho'⟩
    · simp only [execOp, hv, hu, Sem.run_bind, hr, Result.andThen_ok, Sem.run_pure]
    · simp only [Rep]
      exact .inl ⟨_, c, Gh.at_self _ _ _, rfl, hlc, by simp [size_madeCells]⟩
    · simp [size_madeCells]; exact hlc
    · have hlt := (List.getElem?_eq_some_iff.1 hi).1
      simp at hlt
      rw [List.getElem?_replicate, if_pos hlt] at hi
      cases hi
      rw [Nat.zero_add, aj2 (by omega)]
      simp [Value.cells, Nat.mod_one]
theorem aon {t e sz bytes : Nat} {z : Value} [hT : SliceT P t e sz bytes z] {x y : Operand} {kl kc : IntKind} {l c : Nat} {zl zc : Int} [nl : NatOf zl l] [nc : NatOf zc c] (hdn : Nat.blt d n = true) (hx : am R x = .raw (.int kl zl)) (hy : am R y = .raw (.int kc zc)) (hlc : l <= c) (h1 : sz = 1) (hz1 : z.oneCell' = true)
    (hb : bytes * c <= 281474976710656) (h63 : c <= 9223372036854775807) (hk : ∀ o', H o' = none -> AWL P n ops rest K ((d, .vw o' 1 0 l) :: R) (H.set o' (.cel (List.replicate l (.raw z))))) :
    AWL P n ops (⟨some d, .makeSlice t x y, ty, pos, af, none⟩ :: rest) K R H := by
  cases nl.h; cases nc.h
  exact ns rfl rfl hdn fun g a w hp => by
    subst h1; have hv := rv hp hx; have hu := rv hp hy; simp only [Rep] at hv hu; obtain ⟨inf, i1, i2, i3, i4⟩ := hT.info
    have hb' : (inf.bytes : Int) * (c : Int) <= 281474976710656 := by
      rw [i4]; have h : ((bytes * c : Nat) : Int) <= 281474976710656 := by omega
      rwa [Int.natCast_mul] at h
    have hr := run_make (P := P) w t e inf _ hT.h i1 i2 kl kc l c (by omega) (by omega) hb' (by omega)
    simp only [Int.toNat_natCast, i3, Nat.mul_one] at hr; obtain ⟨o', ho', hl'⟩ := hp.sim.fresh; have hzc : z.cells = #[z] := aju hz1
    refine ⟨.slice (some ⟨w.heap.size, 0, none⟩) l c, w.alloc (.cells (madeCells z.cells c) e), _, .vw o' 1 0 l, _, ?_, g.le_at hl' ⟨w.heap.size, 0, (madeCells z.cells c).size⟩, ?_,
      hp.sim.new (w' := w.alloc (.cells (madeCells z.cells c) e)) (x := .cel (List.replicate l (.raw z))) ⟨rfl, rfl, rfl⟩ rfl (unfrozen00 _) hl' ⟨?_, (i6 _ _ _).2 fun i y hi => ?_⟩, hk o' ho'⟩
    · simp only [execOp, hv, hu, Sem.run_bind, hr, Result.andThen_ok, Sem.run_pure]
    · simp only [Rep]
      exact .inl ⟨_, c, Gh.at_self _ _ _, rfl, hlc, by simp [size_madeCells]⟩
    · simp [size_madeCells]; exact hlc
    · have hlt := (List.getElem?_eq_some_iff.1 hi).1
      simp at hlt
      rw [List.getElem?_replicate, if_pos hlt] at hi
      cases hi
      rw [Nat.zero_add, aj2 (by omega)]
      exact ⟨z, by simp [hzc, Nat.mod_one], hz1, by simp only [Rep]⟩
theorem ac0 (off : Nat) : ∀ (l : List Value) (s : Nat) (cs : Array Value), off + s + l.length <= cs.size ->
    ((l.zipIdx s).foldl (fun (cs : Array Value) (p : Value × Nat) => cs.setIfInBounds (off + p.2) p.1) cs).size = cs.size /\
    (∀ j, j < off + s \/ off + s + l.length <= j -> ((l.zipIdx s).foldl (fun (cs : Array Value) (p : Value × Nat) => cs.setIfInBounds (off + p.2) p.1) cs)[j]? = cs[j]?) /\
    (∀ j, j < l.length -> ((l.zipIdx s).foldl (fun (cs : Array Value) (p : Value × Nat) => cs.setIfInBounds (off + p.2) p.1) cs)[off + s + j]? = l[j]?)
  | [], s, cs, _ => ⟨rfl, fun _ _ => rfl, fun j hj => by simp at hj⟩
  | v :: l, s, cs, h => by
    simp only [List.length_cons] at h; obtain ⟨i1, i2, i3⟩ := ac0 off l (s + 1) (cs.setIfInBounds (off + s) v) (by simp; omega)
    simp only [List.zipIdx_cons, List.foldl_cons, List.length_cons]; refine ⟨by simpa using i1, fun j hj => ?_, fun j hj => ?_⟩
    · rw [i2 j (by omega), Array.getElem?_setIfInBounds_ne (by omega)]
    · cases j with
      | zero =>
        rw [i2 _ (by omega), Nat.add_zero, Array.getElem?_setIfInBounds_self_of_lt (by omega)]
        rfl
      | succ j =>
        have := i3 j (by omega)
        rw [show off + (s + 1) + j = off + s + (j + 1) from by omega] at this
        rw [this]; rfl
theorem ah8 (sz : Nat) : ∀ (vs : List Value) (k : Nat) (cells : Array Value), (∀ v ∈ vs, v.cells.size = sz) -> (k + vs.length) * sz <= cells.size ->
    ∃ c', Instr.fill (fun i => some (i * sz, sz)) cells ((vs.zipIdx k).map fun p => (p.2, p.1)) = some c' /\ c'.size = cells.size /\
      (∀ j, j < k * sz -> c'[j]? = cells[j]?) /\ ∀ i r v, vs[i]? = some v -> r < sz -> c'[(k + i) * sz + r]? = v.cells[r]?
  | [], k, cells, _, _ => ⟨cells, rfl, rfl, fun _ _ => rfl, fun i r v h => by simp at h⟩
  | v :: vs, k, cells, hs, hl => by
    have hv := hs v (by simp)
    simp only [List.length_cons] at hl; have hle : (k + 1) * sz <= cells.size := Nat.le_trans (Nat.mul_le_mul_right _ (by omega)) hl
    have hfit : k * sz + sz <= cells.size := by rw [Nat.add_mul, Nat.one_mul] at hle; exact hle
    have hvl : v.cells.toList.length = sz := by rw [Array.length_toList, hv]
    obtain ⟨f1, f2, f3⟩ := ac0 (k * sz) v.cells.toList 0 cells (by omega)
    simp only [Nat.add_zero] at f2 f3
    have hfe : v.cells.zipIdx.foldl (fun cs x => cs.setIfInBounds (k * sz + x.2) x.1) cells = (v.cells.toList.zipIdx 0).foldl (fun (cs : Array Value) (p : Value × Nat) => cs.setIfInBounds (k * sz + p.2) p.1) cells := by
      rw [<- Array.foldl_toList, Array.toList_zipIdx]
    generalize hcs : (v.cells.toList.zipIdx 0).foldl (fun (cs : Array Value) (p : Value × Nat) => cs.setIfInBounds (k * sz + p.2) p.1) cells = cs' at f1 f2 f3 hfe
    obtain ⟨c', q1, q2, q3, q4⟩ := ah8 sz vs (k + 1) cs' (fun u hu => hs u (by simp [hu])) (by rw [f1, show k + 1 + vs.length = k + (vs.length + 1) from by omega]; exact hl)
    refine ⟨c', ?_, by rw [q2, f1], fun j hj => ?_, fun i r u hi hr => ?_⟩
    · simp only [List.zipIdx_cons, List.map_cons, Instr.fill]
      have hno : (decide (v.cells.size ≠ sz) || decide (k * sz + v.cells.size > cells.size)) = false := by
        rw [hv]; simp; omega
      rw [if_neg (by simp [hv]; omega), hfe]
      exact q1
    · rw [q3 j (by rw [Nat.add_mul]; omega), f2 j (.inl hj)]
    · cases i with
      | zero =>
        simp at hi; subst hi
        rw [Nat.add_zero, q3 _ (by rw [Nat.add_mul]; omega), f3 r (by omega)]
        simp
      | succ i =>
        simp at hi
        have := q4 i r u hi hr
        rwa [show k + 1 + i = k + (i + 1) from by omega] at this
def Parts (R : Regs) (ps : Array (Nat × Operand)) (xs : List AV) : Prop := ps.toList.map (·.1) = List.range xs.length /\ ps.toList.map (fun p => am R p.2) = xs
theorem aqe {a : Act} {ps : Array (Nat × Operand)} {m : Nat} (h : ps.toList.map (·.1) = List.range m) :
    (ps.map fun (i, x) => (i, a.eval x)).toList = ((ps.toList.map fun p => a.eval p.2).zipIdx 0).map fun p => (p.2, p.1) := by
  have hlen : ps.toList.length = m := by have := congrArg List.length h; simpa using this
  apply List.ext_getElem?; intro i; by_cases hi : i < m
  · have h1 : i < ps.toList.length := by omega
    have h2 : ps.toList[i].1 = i := by
      have := congrArg (fun l => l[i]?) h
      simp [hi] at this
      have h3 : i < ps.size := by simpa using h1
      rw [Array.getElem?_eq_getElem h3] at this; simp at this
      obtain ⟨y, hy⟩ := this; rw [Array.getElem_toList, hy]
    have h3 : i < ps.size := by simpa using h1
    simp [h3]
    simpa using h2
  · rw [List.getElem?_eq_none (by simp; simp at hlen; omega), List.getElem?_eq_none (by simp; simp at hlen; omega)]
theorem abl {t e sz bytes len : Nat} {z : Value} [hT : SliceT P t e sz bytes z] {g : Gh} {a : Act} {w : World} (hp : Pre n R H g a w) {ps : Array (Nat × Operand)} {xs : List AV} (hps : Parts R ps xs) (hlen : xs.length = len)
    (hx : ∀ x ∈ xs, x.parts.all AV.one1 = true /\ x.parts.length = sz) (hsmall : len * sz <= 16777216) :
    ∃ c : Array Value, (Instr.buildSlice t len (ps.map fun (i, x) => (i, a.eval x))).run P w = .ok (.slice (some ⟨w.heap.size, 0, none⟩) len len) (w.alloc (.cells c e)) /\ c.size = len * sz /\ RepAt g (xs.flatMap AV.parts) c 0 := by
  obtain ⟨inf, i1, i2, i3, i4⟩ := hT.info; obtain ⟨h1, h2⟩ := hps; rw [hlen] at h1
  have hval : ∀ i x, xs[i]? = some x -> ∃ u, (ps.toList.map fun p => a.eval p.2)[i]? = some u /\ Rep g x u := fun i x hi => by
    subst h2; rw [List.getElem?_map] at hi
    cases hq : ps.toList[i]? with
    | none => rw [hq] at hi; cases hi
    | some p =>
      rw [hq] at hi; simp at hi
      exact ⟨a.eval p.2, by rw [List.getElem?_map, hq]; rfl, hi ▸ rv hp rfl⟩
  have hlv : (ps.toList.map fun p => a.eval p.2).length = len := by
    have := congrArg List.length h1; simpa using this
  have hsz : ∀ v ∈ (ps.toList.map fun p => a.eval p.2), v.cells.size = sz := fun v hv => by
    obtain ⟨i, hi, rfl⟩ := List.getElem_of_mem hv; obtain ⟨u, hu, hr⟩ := hval i _ (List.getElem?_eq_getElem (show i < xs.length by rw [hlen, <- hlv]; exact hi))
    rw [List.getElem?_eq_getElem hi] at hu
    cases hu
    obtain ⟨e1, e2⟩ := hx _ (List.getElem_mem (show i < xs.length by rw [hlen, <- hlv]; exact hi))
    have := pf _ _ (t9 hr e1); rw [Array.length_toList] at this; omega
  generalize hzero : (if len * sz = 0 then (#[] : Array Value) else z.cells) = zc
  obtain ⟨c, q1, q2, q3, q4⟩ := ah8 sz (ps.toList.map fun p => a.eval p.2) 0 ((Array.range (len * sz)).map (zc[· % zc.size]!)) hsz (by simp [hlv])
  refine ⟨c, ?_, by simpa using q2, ?_⟩
  · rw [<- aqe h1] at q1
    have hn : ¬ (16777216 < len * sz) := by omega
    by_cases h0 : len * sz = 0
    · rw [if_pos h0] at hzero
      subst hzero; simp only [h0] at q1; simp [Instr.buildSlice, run_underlying hT.h, sizeOf, typeInfo, i1, i3, h0, newRow]
      simp at q1
      rw [q1]; rfl
    · rw [if_neg h0] at hzero
      subst hzero; simp only [Instr.buildSlice, run_underlying hT.h, Sem.run_bind, Result.andThen_ok, sizeOf, typeInfo, i1, i3, run_program, Sem.run_pure, zeroValue]; simp [hn, h0, newRow, i1, i2]
      simp at q1
      rw [q1]; simp
  · rw [i6]
    intro j y hj
    have hflat : ∀ (l : List AV) (k : Nat), (∀ x ∈ l, x.parts.length = sz) -> ∀ j y, (l.flatMap AV.parts)[j]? = some y -> ∃ i r x, l[i]? = some x /\ r < sz /\ x.parts[r]? = some y /\ j = i * sz + r := by
      intro l
      induction l with
      | nil => intro _ _ j y h; simp at h
      | cons x l ih =>
        intro k hl j y h; have hx0 := hl x (by simp)
        rw [List.flatMap_cons, List.getElem?_append] at h; by_cases hlt : j < x.parts.length
        · rw [if_pos hlt] at h
          exact ⟨0, j, x, rfl, by omega, h, by simp⟩
        · rw [if_neg hlt] at h
          obtain ⟨i, r, x', e1, e2, e3, e4⟩ := ih k (fun u hu => hl u (by simp [hu])) _ _ h
          refine ⟨i + 1, r, x', by simpa using e1, e2, e3, ?_⟩
          rw [Nat.add_mul]; omega
    obtain ⟨i, r, x, e1, e2, e3, rfl⟩ := hflat xs 0 (fun u hu => (hx u hu).2) j y hj
    obtain ⟨u, hu, hr⟩ := hval i x e1; have hxm := List.mem_of_getElem? e1; have hq := q4 i r u hu e2; simp only [Nat.zero_add] at hq ⊢; obtain ⟨u2, hu2, hr2⟩ := ((ny _ _).1 (t9 hr (hx x hxm).1)).2 r y e3; rw [Array.getElem?_toList] at hu2; exact ⟨u2, hq.trans hu2, rp (List.all_eq_true.1 (hx x hxm).1 y (List.mem_of_getElem? e3)) hr2, hr2⟩
theorem ot {t e sz bytes : Nat} {z : Value} [hT : SliceT P t e sz bytes z] : Stp P n (.buildSlice t 0 #[]) ty R H .emp :=
  tg fun o ho ht g a w hp => by
    obtain ⟨c, h1, h2, h3⟩ := abl (P := P) (t := t) (len := 0) hp (ps := #[]) (xs := []) ⟨rfl, rfl⟩ rfl (by simp) (by simp)
    obtain ⟨hn, hsim⟩ := hp.sim.newSeal (w' := w.alloc (.cells c e)) ⟨rfl, rfl, rfl⟩ rfl; exact ⟨_, _, _, by simp only [execOp, ho, Sem.run_bind]; rw [h1]; rfl, g.le_seal' hn _, by simp only [Rep]; exact ⟨_, rfl⟩, hsim⟩
theorem ahz : ∀ as : List Int, (as.map fun a => AV.raw (.int .u8 a)).flatMap AV.parts = as.map fun a => AV.raw (.int .u8 a)
  | [] => rfl
  | a :: l => by rw [List.map_cons, List.flatMap_cons, ahz l]; rfl
theorem arh {t e sz bytes len : Nat} {z : Value} [hT : SliceT P t e sz bytes z] {ps : Array (Nat × Operand)} {xs ys : List AV} (hps : Parts R ps xs) (hlen : xs.length = len) (hx : ∀ x ∈ xs, x.parts.all AV.one1 = true /\ x.parts.length = sz) (hys : xs.flatMap AV.parts = ys) (hsmall : len * sz <= 16777216) :
    Stp P n (.buildSlice t len ps) ty R H (.slsx len ys) :=
  tg fun o ho ht g a w hp => by
    subst hys; obtain ⟨c, h1, h2, h3⟩ := abl (P := P) (t := t) hp hps hlen hx hsmall; obtain ⟨hn, hsim⟩ := hp.sim.newSeal (w' := w.alloc (.cells c e)) ⟨rfl, rfl, rfl⟩ rfl; refine ⟨_, _, _, by simp only [execOp, ho, Sem.run_bind]; rw [h1]; rfl, g.le_seal' hn _, ?_, hsim⟩
    simp only [Rep]; exact .inr ⟨w.heap.size, 0, c, e, (0, 0), rfl, Gh.seal'_self _ _ _, RepAt.mono (g.le_seal' hn _) _ _ _ h3⟩
theorem aob {t e bytes len : Nat} {z : Value} [hT : SliceT P t e 1 bytes z] {ps : Array (Nat × Operand)} {as : List Int} {bs : List UInt8} (hps : Parts R ps (as.map fun a => .raw (.int .u8 a))) (hlen : as.length = len) (ha : ∀ a ∈ as, 0 <= a /\ a <= 255) (hbs : as.map (fun a => UInt8.ofNat a.toNat) = bs) (hsmall : len <= 16777216) :
    Stp P n (.buildSlice t len ps) ty R H (.bysx bs) :=
  tg fun o ho ht g a w hp => by
    subst hbs; obtain ⟨c, h1, h2, h3⟩ := abl (P := P) (t := t) hp hps (by simpa using hlen) (fun x hx => by simp at hx; obtain ⟨b, _, rfl⟩ := hx; exact ⟨rfl, rfl⟩) (by omega)
    obtain ⟨hn, hsim⟩ := hp.sim.newSeal (w' := w.alloc (.cells c e)) ⟨rfl, rfl, rfl⟩ rfl; refine ⟨_, _, _, by simp only [execOp, ho, Sem.run_bind]; rw [h1]; rfl, g.le_seal' hn _, ?_, hsim⟩
    simp only [Rep]; refine .inr ⟨w.heap.size, 0, c, e, (0, 0), by simp [hlen], Gh.seal'_self _ _ _, fun i y hi => ?_⟩
    rw [List.getElem?_map] at hi
    cases hq : as[i]? with
    | none => rw [hq] at hi; cases hi
    | some b =>
      rw [hq] at hi; simp at hi
      subst hi; have hb := ha b (List.mem_of_getElem? hq); have hfm := ahz as; rw [hfm] at h3; obtain ⟨u, hu, _, hr⟩ := (i6 _ _ _).1 h3 i (.raw (.int .u8 b)) (by simp [hq])
      simp only [Rep] at hr; subst hr; rw [hu]; have : (UInt8.ofNat b.toNat).toNat = b.toNat := by simp; omega
      rw [this]
      congr 2
      omega
end
end Go.Am
