/- The program's cmds and block: walked. Each lemma states its own conditions. -/
import Derived.Test.YtmfjlcpjemccmaaGreatDoorTts30
import Derived.Test.YtmfjlcpjemccmaaGreatDoorTts18
namespace Go.Proofs.YtmfjlcpjemccmaaGreatDoor
open Go.RowKit
section
variable {P : Program} {ops : Array Oper} {Q : Exit → Act → World → Prop} {rest : List Oper} {o : Oper} {a : Act} {w : World}
/-- a call in the text's order; it may fail -/
theorem wl_callp (d : Option Tmp) (hd : o.dst = d) (hw : Region.wanted o (yielded ops a.tmps) = true) (f : FuncId) (args : Array Value) (hrun : (execOp a.eval o).run P w = .ok (.enter f args) w) {R : Ending → World → Prop} (hc : Calls P f args w R)
  (h : ∀ e w', R e w' → (∃ v, e = .returned v ∧ WL P ops Q rest (a.put d v) w') ∨ ∃ ps, e = .panicked ps ∧ Q (.panic ps) a w') : WL P ops Q (o :: rest) a w :=
 ⟨wpList_step fun K hK => by
  subst hd
  rw [if_pos hw]
  unfold Oper.wp
  rw [hrun, Oper.upon_enter]
  refine hc.mono fun e w' hh => ?_
  rcases h e w' hh with ⟨v, rfl, hW⟩ | ⟨ps, rfl, hp⟩
  ·exact hK _ _ hW.out
  ·exact hp⟩
/-- '[]T{x}' -/
theorem wl_one (d : Option Tmp) (hd : o.dst = d) (hg : o.guard = none) (t e : TypeId) (x : Operand) (ho : o.op = .buildSlice t 1 #[(0, x)]) (cs : List Value) (hx : a.eval x = .agg cs.toArray) {size bytes : Nat} (E : Elem P t e size bytes) (hl : cs.length = size) (hs : size ≤ 1000)
  (h : WL P ops Q rest (a.put d (.slice (some ⟨w.heap.size, 0, none⟩) 1 1)) (w.alloc (.cells cs.toArray e))) : WL P ops Q (o :: rest) a w := by
 subst hd
 exact ⟨wpList_oneRow hg t e x ho cs hx E hl hs h.out⟩
/-- 'append(xs, x)' -/
theorem wl_app (d : Option Tmp) (hd : o.dst = d) (W : World) (hgd : o.guard = none) (s x : Operand) (t : TypeId)
  (ho : o.op = .call { callee := .builtin .append, args := #[s, x], argTypes := #[t, t] }) (base : Nat) {e : TypeId} {size bytes : Nat} (E : Elem P t e size bytes)
  (v : Value) (n : Nat) (xs : List Value) (hs : a.eval s = v) (hown : W.ownsRow base e size v n xs) (cs : List Value) (hx : a.eval x = .slice (some ⟨W.heap.size, 0, none⟩) 1 1)
  (hl : cs.length = size) (h1 : ∀ u ∈ cs, u.oneCell' = true) (h63 : n + 1 ≤ maxLen) (hbytes : (n + 1) * bytes ≤ 140737488355328) (hbase : base ≤ W.heap.size)
  (h : ∀ g cap w', w'.ownsRow base e size (.slice (some ⟨g, 0, none⟩) (n + 1) cap) (n + 1) (xs ++ cs) → W.grownBy w' v.ownBlock → (v.ownBlock = some g ∨ W.heap.size ≤ g) →
   WL P ops Q rest (a.put d (.slice (some ⟨g, 0, none⟩) (n + 1) cap)) w') : WL P ops Q (o :: rest) a (W.alloc (.cells cs.toArray e)) := by
 subst hd
 exact ⟨wpl_app W hgd s x t ho base E v n xs hs hown cs hx hl h1 h63 hbytes hbase fun g cap w' h2 h3 h4 => (h g cap w' h2 h3 h4).out⟩
end
theorem OwnL.pushedP {α : Type} {r : Rep α} (hm : More r) {w W W2 : World} {e : TypeId} {v v' : Value} {xs : List α} {x : α} {cells cs : List Value} {C g : Nat} {lv : Value} {E p : Nat}
  (h1 : W.ownsRow w.heap.size e r.size v xs.length cells) (h2 : ∀ i x, xs[i]? = some x → r.R (mask (ownS w.heap.size v) W) ((cells.drop (i * r.size)).take r.size) x) (h3 : W2.ownsRow w.heap.size e r.size v' (xs.length + 1) (cells ++ cs))
  (hg : W.grownBy W2 v.ownBlock) (hv : v.ownBlock = v'.ownBlock ∨ ∀ k, v'.ownBlock = some k → W.heap.size ≤ k) (hx : r.R (low C W) cs x) (hC : w.heap.size ≤ C) (hCv : ∀ k, v.ownBlock = some k → k < C)
  (hgw : w.grownBy W (some g)) (hgl : g < w.heap.size) (hr : Ps W g lv p E) : OwnL r e w.heap.size W2 v' (xs ++ [x]) ∧ w.grownBy W2 (some g) ∧ Ps W2 g lv p E := by
 have ho : ∀ k, v.ownBlock = some k → w.heap.size ≤ k := fun k hk => (h1.lt k hk).1
 exact ⟨.push hm h1 h2 h3 hg hv hx hC hCv, grownOwn hgw hg ho, Blk.grown hr hg (fun e => by
  have := ho g e.symm
  omega)⟩
theorem PListRes.mk {w : World} {g : Nat} {lv : Value} {l : List Tok} {E p : Nat} {x : List TC × RS} {w' : World} {A : Option Addr} {c : Nat} {xs : List TC} (hx : x = (xs, (p, false))) (hg : w.grownBy w' (some g)) (hr : Ps w' g lv p E) (h : Sl tcR (low w.heap.size w') (.slice A xs.length c) xs) : PListRes w g lv l E x (.returned (.slice A xs.length c)) w' := by
 subst hx
 exact .mkGood rfl hg hr ⟨A, c, rfl, h⟩
theorem blockD_bad {l : List Tok} {E n : Nat} (k : Nat) : (blockD l E n (k, true)).2 = (k, true) := by
 unfold blockD
 rw [needD_bad, cmdsD_stop (Or.inl rfl)]
 exact needD_bad (l := l) (s := rcurB) (p := k)
set_option maxRecDepth 20000 in
set_option maxHeartbeats 4000000 in
theorem pcmds_step (l : List Tok) (lv : Value) (E g n : Nat) (s : ByteArray) (hs0 : s ≠ emp) (p0 : Nat) (w0 w : World) (hl : Sl tokR w0 lv l) (hn : l.length ≤ 6000) (hok : ∀ t ∈ l, TokOk t) (hm : ∀ t ∈ l, t.text.size ≤ maxLen) (hg : w0.heap.size ≤ g) (hp : p0 ≤ l.length) (h0 : Bel w0 w) (h : Ps w g lv p0 E) (hf : l.length - p0 < n) (hn2 : n ≤ 6001)
  (hblk : ∀ (m : Nat) W k, m < n → k ≤ l.length → l.length - k < m → Bel w0 W → Ps W g lv k E → Calls Tryz.prog 218 #[.pointer (some ⟨g, 0, none⟩)] W fun r w' => PListRes W g lv l E (blockD l E m (k, false)) r w') :
  Calls Tryz.prog 143 #[.pointer (some ⟨g, 0, none⟩), .string s] w fun r w' => PListRes w g lv l E (cmdsD l E n s (p0, false)) r w' := by
 have HSE := Hi_ (fun W (k : Nat) (b : Bool) (ht : decide (tx l k false = s) = b) (hb : Bel w0 W) (h : Ps W g lv k E) => sees_is l lv k E g s hs0 W (hl.keep hb) hn h ht)
 have HCM := Hi_ (fun (m p : Nat) W (hmn : m < n) (hq : p ≤ l.length) (hb : Bel w0 W) (h : Ps W g lv p E) (hlm : l.length - p < m + 1) => pcmd_any l lv E g p w0 W hl hn hok hm hg hq hb h m hlm (blockD l E m) (blockD_G (E := E) hok m) (fun k => blockD_bad k) (fun W' k h1 h2 h3 h4 => hblk m W' k hmn h1 h2 h3 h4))
 have hgl := h.lt
 have HR0 := Hi_ h
 obtain ⟨y, hy⟩ : ∃ y, y = cmdsD l E n s (p0, false) := ⟨_, rfl⟩
 have HY0 : Hid ((([] : List TC) ++ (cmdsD l E n s (p0, false)).1, (cmdsD l E n s (p0, false)).2) = y) := Hi_ hy.symm
 rw [← hy]
 clear hy h hblk
 go_enter Tryz.func143, Tryz.ntmps143
 go_wp2
 go_loopw [5] (fun v wr => ∃ (xs : List TC) (p m : Nat), Hid (OwnL tcR 53 w.heap.size wr v xs) ∧ Hid (Ps wr g lv p E) ∧ Hid (w.grownBy wr (some g)) ∧ Hid ((xs ++ (cmdsD l E m s (p, false)).1, (cmdsD l E m s (p, false)).2) = y) ∧ l.length - p < m ∧ p ≤ l.length ∧ xs.length + m = n) (fun v _ => n - lenV v)
 case atStart => exact ⟨[], p0, n, OwnL.nil _ _ _ _, HR0, World.grownBy.refl _ _, HY0, hf, hp, by simp⟩
 case round =>
  obtain ⟨xs, p, m, HO, HR, HG, HY, hlt, hq, hxm⟩ := hrel
  clear HR0 HY0 hf hp
  have HM := Hi_ HO.out.len
  obtain ⟨va, vc, rfl⟩ := HO.out.slice
  by_cases hs : tx l p false = s
  ·have HT := Hi_ (decide_eq_true hs)
   have HE := HY.out
   rw [cmdsD_stop (q := (p, false)) (Or.inr hs), List.append_nil] at HE
   clear hs
   go_wp2_with fail
   refine (HSE.out _ p true HT.out (grownBel h0 hg HG.out) HR.out).mono ?_
   rintro r w1 ⟨rfl, hb1⟩
   have HB := Hi_ (hb1.grown (some g))
   replace HR := Hi_ (HR.out.keep hb1)
   replace HO := Hi_ (HO.out.keep tcR_more hb1)
   clear hb1
   go_wp2
   go_ret
   exact .mk HE.symm (HG.out.trans HB.out) HR.out (HO.out.sl tcR_more)
  ·have HT := Hi_ (decide_eq_false hs)
   obtain ⟨m, rfl⟩ : ∃ m', m = m' + 1 := ⟨m - 1, by omega⟩
   have HGO := Hi_ (cmdsD_go (E := E) (n := m) hs)
   have HGE := Hi_ (cmdD_G (E := E) hok (blockD_G (E := E) hok m) p)
   clear hs
   go_wp2_with fail
   refine (HSE.out _ p false HT.out (grownBel h0 hg HG.out) HR.out).mono ?_
   rintro r w1 ⟨rfl, hb1⟩
   have HB := Hi_ (hb1.grown (some g))
   have HWW : Hid (wr.heap.size ≤ w1.heap.size) := Hi_ hb1.size
   have HOLT : Hid (∀ k, (Value.slice va xs.length vc).ownBlock = some k → k < wr.heap.size) := Hi_ fun k hk => by
    obtain ⟨_, ho, -⟩ := HO.out
    exact (ho.lt k hk).2
   replace HR := Hi_ (HR.out.keep hb1)
   clear hb1
   go_upto_region 3 with fail
   refine wl_region ?_
   refine wl_k (some 11) (.pointer (some ⟨g, 0, none⟩)) ?_
   refine wl_callp (some 12) rfl (by kernel_rfl) 187 #[.pointer (some ⟨g, 0, none⟩)] (by kernel_rfl) (HCM.out m p _ (by omega) hq (grownBel h0 hg (HG.out.trans HB.out)) HR.out (by omega)) ?_
   rintro r w2 hres
   generalize cmdD l E (blockD l E m) (p, false) = x2 at *
   obtain ⟨x, q2, f2⟩ := x2
   dsimp only at *
   cases f2 with
   | true =>
    obtain ⟨hgN, rfl⟩ := PsR.bad hres rfl
    have HG2 := Hi_ (HG.out.trans (HB.out.trans hgN))
    refine Or.inr ⟨_, rfl, ?_⟩
    exact ⟨rfl, .mkBad (by rw [← HY.out, HGO.out]; dsimp only; rw [cmdsD_stop (Or.inl rfl)]) HG2.out⟩
   | false =>
   obtain ⟨hgN, hrN, cs, rfl, hcs⟩ := PsR.good hres rfl
   have HCZ : Hid (w1.heap.size ≤ w2.heap.size) := Hi_ hgN.size
   replace HB := Hi_ (HB.out.trans hgN)
   have HR := Hi_ hrN
   clear hgN hrN hres
   refine Or.inl ⟨_, rfl, ?_⟩
   have hcl : cs.length = 17 := tcR.len hcs
   have HOC : Hid (∀ u ∈ cs, u.oneCell' = true) := Hi_ (tcR_one hcs)
   have HYN : Hid ((xs ++ [x] ++ (cmdsD l E m s (q2, false)).1, (cmdsD l E m s (q2, false)).2) = y) := Hi_ (by rw [← HY.out, HGO.out, List.append_assoc, List.singleton_append])
   refine wl_alloc (some 6) rfl 53 rfl rfl elTC (fun z hz => ?_)
   refine wl_store none rfl 53 (.tmp 6) (.tmp 12) rfl rfl elTC w2.heap.size cs (by kernel_rfl) (by kernel_rfl) (Blk.new _ _ _) hz hcl HOC.out ?_
   rw [World.setRow_alloc_new]
   have hba := (Bel.rfl_ w2).al (.cells cs.toArray 53)
   have hMB := Blk.new w2 53 cs.toArray
   have HCS : Hid (tcR.R (low w1.heap.size (w2.alloc (.cells cs.toArray 53))) cs x) := Hi_ (tcR.keep (low_belB hba) hcs)
   replace HB := Hi_ (HB.out.trans (hba.grown (some g)))
   replace HR := Hi_ (HR.out.keep hba)
   replace HCZ := Hi_ (Nat.le_trans HCZ.out hba.size)
   clear hba hcs
   generalize w2.alloc (.cells cs.toArray 53) = W2 at *
   generalize w2.heap.size = M at *
   refine wl_nil ?_
   try simp only [Act.put, lA, lB, lC]
   have HOW := Hi_ (HO.out.at_ tcR_more HB.out fun k hk => by cases hk; exact hgl)
   have hwr := HG.out.size
   have hbase : w.heap.size ≤ W2.heap.size := Nat.le_trans hwr HB.out.size
   have hw1 : w.heap.size ≤ w1.heap.size := Nat.le_trans hwr HWW.out
   obtain ⟨cells, ho1, ho2⟩ := HOW.out
   have HO1 := Hi_ ho1
   have HO2 := Hi_ ho2
   have hxs : xs.length ≤ 6000 := by omega
   have hgt : p < q2 := by
    rcases HGE.out.2 with h | h
    ·cases h
    ·exact h
   have hq2 := HGE.out.1.2.1 hq
   have HCC := Hi_ (blk_cells hMB)
   clear ho1 ho2 HOW HO HY HGO hMB HGE
   go_upto_region 4 with fail
   refine wl_region ?_
   refine wl_k (some 13) (.slice va xs.length vc) ?_
   refine wl_e (some 14) (.agg cs.toArray) (run_loadRow 53 _ rfl elTC M 0 (by kernel_rfl) cs HCC.out hcl (by kernel_rfl)) ?_
   refine wl_one (some 15) rfl rfl 46 53 (.tmp 14) rfl cs (by kernel_rfl) elTC hcl (by decide) ?_
   refine wl_app (some 16) rfl W2 rfl (.tmp 13) (.tmp 15) 46 rfl w.heap.size elTC (.slice va xs.length vc) xs.length _ (by kernel_rfl) HO1.out cs (by kernel_rfl) hcl HOC.out (by simp only [maxLen]; omega) (by omega) hbase ?_
   intro g2 cap w10 hown hg10 hv10
   have HP := Hi_ (OwnL.pushedP tcR_more (w := w) (E := E) (x := x) (p := q2) HO1.out HO2.out hown hg10 (hv10.imp id fun h k hk => by (have : g2 = k := Option.some.inj hk); omega) (C := w1.heap.size) HCS.out hw1 (fun k hk => Nat.lt_of_lt_of_le (HOLT.out k hk) HWW.out) (HG.out.trans HB.out) hgl HR.out)
   clear hown hg10 hv10
   refine wl_k (some 5) (.slice (some ⟨g2, 0, none⟩) (xs.length + 1) cap) ?_
   refine wl_nil ?_
   try simp only [Act.put, lA, lB, lC]
   go_wp2
   go_roundw
   case rel => exact ⟨xs ++ [x], q2, m, Hi_ HP.out.1, Hi_ HP.out.2.2, Hi_ HP.out.2.1, HYN, by omega, hq2, by rw [List.length_append]; simp only [List.length_cons, List.length_nil]; omega⟩
   case measure =>
    have hM := HM.out
    unfold lenV at hM
    simp [lenV]
    omega
/-- the program's cmds and block -/
theorem pcmds_any (l : List Tok) (lv : Value) (E g : Nat) (w0 : World) (hl : Sl tokR w0 lv l) (hn : l.length ≤ 6000) (hok : ∀ t ∈ l, TokOk t) (hm : ∀ t ∈ l, t.text.size ≤ maxLen) (hg : w0.heap.size ≤ g) : ∀ (n : Nat) (s : ByteArray) (p : Nat) (w : World), s ≠ emp → n ≤ 6001 → p ≤ l.length → Bel w0 w → Ps w g lv p E → l.length - p < n →
  Calls Tryz.prog 143 #[.pointer (some ⟨g, 0, none⟩), .string s] w fun r w' => PListRes w g lv l E (cmdsD l E n s (p, false)) r w' := by
 intro n
 induction n using Nat.strongRecOn with
 | _ n ih =>
  intro s p w hs hn2 hp h0 h hf
  refine pcmds_step l lv E g n s hs p w0 w hl hn hok hm hg hp h0 h hf hn2 ?_
  intro m W k hmn hk hkm hb hr
  have HND := Hi_ (kND (E := E) hl hn hg)
  have hgl := hr.lt
  have hX : blockD l E m (k, false) = ((cmdsD l E m rcurB (needD l lcurB (k, false))).1, needD l rcurB (cmdsD l E m rcurB (needD l lcurB (k, false))).2) := rfl
  have HX := Hi_ hX
  clear hX
  have hq1 := needD_le (l := l) (s := lcurB) (q := (k, false)) (by decide) hk
  have hge := needD_ge (l := l) (s := lcurB) (q := (k, false))
  dsimp only at hge
  have HR := Hi_ hr
  have HIH := Hi_ (fun W (q : Nat) (hq : q ≤ l.length) (hqm : l.length - q < m) (hb : Bel w0 W) (h : Ps W g lv q E) => ih m hmn rcurB q W (by decide) (by omega) hq hb h hqm)
  clear hr ih hf h
  go_enter Tryz.func218, Tryz.ntmps218
  go_upto_region 1 with fail
  have hgq : W.heap.size ≠ g := by omega
  have hba := (Bel.rfl_ W).al (.cells #[.string ⟨#[123]⟩] 9)
  have HR2 := Hi_ (HR.out.keep hba)
  have HG := Hi_ (hba.grown (some g))
  go_wp2_with fail
  refine (HND.out _ k W.heap.size [lcurB] (hb.tr hba) HR2.out (by decide) (by decide) (Blk.new W _ _) hgq).mono ?_
  rintro r w1 hres
  rw [show needsD l [lcurB] (k, false) = needD l lcurB (k, false) from rfl] at hres
  clear hba hgq HR
  generalize needD l lcurB (k, false) = st at *
  obtain ⟨q1, f1⟩ := st
  dsimp only at *
  cases f1 with
  | true =>
   obtain ⟨hgn, rfl⟩ := hres.bad rfl
   have HG2 := Hi_ (HG.out.trans hgn)
   clear hgn hres
   go_wp2
   exact ⟨rfl, .mkBad (by rw [HX.out]; dsimp only; rw [cmdsD_stop (Or.inl rfl)]; exact needD_bad (l := l) (s := rcurB)) HG2.out⟩
  | false =>
  obtain ⟨hgn, hpn, rfl⟩ := hres.good rfl
  replace HG := Hi_ (HG.out.trans hgn)
  have HR := Hi_ hpn
  clear hgn hpn hres HR2
  go_wp2_with fail
  refine (HIH.out _ q1 hq1 (by omega) (grownBel hb hg HG.out) HR.out).mono ?_
  rintro r w2 hres
  have HSZ := Hi_ HG.out.size
  clear HIH
  generalize cmdsD l E m rcurB (q1, false) = x2 at *
  obtain ⟨xs, q2, f2⟩ := x2
  dsimp only at *
  cases f2 with
  | true =>
   obtain ⟨hgn, rfl⟩ := PsR.bad hres rfl
   have HG2 := Hi_ (HG.out.trans hgn)
   clear hgn hres
   go_wp2
   exact ⟨rfl, .mkBad (by rw [HX.out]; exact needD_bad (l := l) (s := rcurB)) HG2.out⟩
  | false =>
  obtain ⟨hgn, hpn, A2, c2, rfl, hsl⟩ := PsR.good hres rfl
  replace HG := Hi_ (HG.out.trans hgn)
  have HSL := Hi_ (low_mono (B' := W.heap.size) tcR_more HSZ.out hsl)
  have HR := Hi_ hpn
  clear hgn hpn hres hsl
  go_upto_region 3 with fail
  have hgq : w2.heap.size ≠ g := by have := HG.out.size; omega
  have hba := (Bel.rfl_ w2).al (.cells #[.string ⟨#[125]⟩] 9)
  have HR2 := Hi_ (HR.out.keep hba)
  replace HG := Hi_ (HG.out.trans (hba.grown (some g)))
  replace HSL := Hi_ (HSL.out.keep (low_belB hba))
  go_wp2_with fail
  refine (HND.out _ q2 w2.heap.size [rcurB] (grownBel hb hg HG.out) HR2.out (by decide) (by decide) (Blk.new w2 _ _) hgq).mono ?_
  rintro r w3 hres
  rw [show needsD l [rcurB] (q2, false) = needD l rcurB (q2, false) from rfl] at hres
  clear hba hgq HR
  generalize needD l rcurB (q2, false) = st at *
  obtain ⟨q3, f3⟩ := st
  try dsimp only at *
  cases f3 with
  | true =>
   obtain ⟨hgn, rfl⟩ := hres.bad rfl
   have HG2 := Hi_ (HG.out.trans hgn)
   clear hgn hres
   go_wp2
   exact ⟨rfl, .mkBad (by rw [HX.out]) HG2.out⟩
  | false =>
  obtain ⟨hgn, hpn, rfl⟩ := hres.good rfl
  have HSL3 := Hi_ (HSL.out.keep (low_grown hgn hgl))
  replace HG := Hi_ (HG.out.trans hgn)
  have HR := Hi_ hpn
  clear hgn hpn hres HR2
  go_wp2
  go_ret
  exact .mk HX.out HG.out HR.out HSL3.out
end Go.Proofs.YtmfjlcpjemccmaaGreatDoor
