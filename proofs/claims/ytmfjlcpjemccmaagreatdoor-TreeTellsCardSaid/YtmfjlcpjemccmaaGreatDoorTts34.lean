/- The program's tree: walked. Each lemma states its own conditions. -/
import Derived.Test.YtmfjlcpjemccmaaGreatDoorTts33
namespace Go.Proofs.YtmfjlcpjemccmaaGreatDoor
open Go.RowKit
/-- a struct that is built behind a world; what lies behind it stays as it was in X -/
def BlF (w X W : World) (g : Nat) (lv : Value) (E : Nat) (p : Nat) (t : TypeId) (q : Nat) (cs : Array Value) : Prop :=
 Ps W g lv p E ∧ Blk W q t cs ∧ w.grownBy W (some g) ∧ (g < w.heap.size ∧ w.heap.size ≤ q) ∧ q + 1 ≤ W.heap.size ∧ Bel (low (q + 1) X) (low (q + 1) W)
section
variable {w X W W' : World} {g : Nat} {lv : Value} {E p p' : Nat} {t : TypeId} {q : Nat} {cs cs' : Array Value}
theorem BlF.start {W1 : World} (h : Ps w g lv p E) (t : TypeId) (cs : Array Value) (hb : Bel w W1) : BlF w (W1.alloc (.cells cs t)) (W1.alloc (.cells cs t)) g lv E p t W1.heap.size cs :=
 ⟨h.keep (hb.al _), Blk.new _ _ _, (hb.al _).grown _, ⟨h.lt, hb.size⟩, by simp, Bel.rfl_ _⟩
theorem BlF.keep (h : BlF w X W g lv E p t q cs) (hb : Bel W W') : BlF w X W' g lv E p t q cs := by
 obtain ⟨h1, h2, h3, h4, h5, h6⟩ := h
 exact ⟨h1.keep hb, h2.keep hb, h3.trans (hb.grown _), h4, Nat.le_trans h5 hb.size, h6.tr (low_belB hb)⟩
theorem BlF.grown (h : BlF w X W g lv E p t q cs) (hg : W.grownBy W' (some g)) (hp : Ps W' g lv p' E) : BlF w X W' g lv E p' t q cs := by
 obtain ⟨h1, h2, h3, h4, h5, h6⟩ := h
 exact ⟨hp, h2.grown hg (by simp; omega), h3.trans hg, h4, Nat.le_trans h5 hg.size, h6.tr (low_grown hg (by omega))⟩
theorem BlF.put (h : BlF w X W g lv E p t q cs) (i : Nat) (u : Value) : BlF w X (W.setCell ⟨q, i, none⟩ u) g lv E p t q (cs.setIfInBounds i u) := by
 obtain ⟨h1, h2, h3, h4, h5, h6⟩ := h
 exact ⟨Blk.far_ h1 (by omega) i u, h2.set_ i u, grownNew h3 h4.2 i u, h4, by simpa using h5, h6.tr (low_set W u (by omega))⟩
theorem BlF.to (h : BlF w X W g lv E p t q cs) (he : cs = cs') : BlF w X W g lv E p t q cs' := he ▸ h
theorem BlF.fresh (h : BlF w X W g lv E p t q cs) : BlF w W W g lv E p t q cs := ⟨h.1, h.2.1, h.2.2.1, h.2.2.2.1, h.2.2.2.2.1, Bel.rfl_ _⟩
theorem BlF.cell (h : BlF w X W g lv E p t q cs) (i : Nat) {v : Value} (hv : cs[i]? = some v) : W.cell? ⟨q, i, none⟩ = some v := h.2.1.cell hv
theorem BlF.frozen (h : BlF w X W g lv E p t q cs) (i : Nat) : W.frozen? ⟨q, i, none⟩ = false := h.2.1.frozen i
theorem BlF.grew (h : BlF w X W g lv E p t q cs) : w.grownBy W (some g) := h.2.2.1
theorem BlF.lt (h : BlF w X W g lv E p t q cs) : g < w.heap.size ∧ w.heap.size ≤ q := h.2.2.2.1
theorem BlF.size (h : BlF w X W g lv E p t q cs) : q + 1 ≤ W.heap.size := h.2.2.2.2.1
theorem BlF.low_ (h : BlF w X W g lv E p t q cs) : Bel (low (q + 1) X) (low (q + 1) W) := h.2.2.2.2.2
theorem BlF.bel (h : BlF w X W g lv E p t q cs) {w0 : World} (h0 : Bel w0 w) (hg : w0.heap.size ≤ g) : Bel w0 W := grownBel h0 hg h.grew
end
/-- the whole tree, and whether its reader has failed: tokens may be left -/
def treeE (l : List Tok) (E : Nat) : List TF × RS := ((treeD l E).1, if (treeD l E).2.2 = true ∨ (treeD l E).2.1 < l.length then ((treeD l E).2.1, true) else (treeD l E).2)
theorem treeE_bad {l : List Tok} {E q : Nat} (h : (treeD l E).2 = (q, true)) : (treeE l E).2 = (q, true) := by
 unfold treeE
 rw [h]
 dsimp only
 rw [if_pos (Or.inl rfl)]
theorem treeE_left {l : List Tok} {E q : Nat} (h : (treeD l E).2 = (q, false)) (hq : q < l.length) : (treeE l E).2 = (q, true) := by
 unfold treeE
 rw [h]
 dsimp only
 rw [if_pos (Or.inr hq)]
theorem treeE_good {l : List Tok} {E q : Nat} {x : List TF} (h : treeD l E = (x, (q, false))) (hq : ¬ q < l.length) : treeE l E = (x, (q, false)) := by
 unfold treeE
 rw [h]
 dsimp only
 rw [if_neg (by rintro (h | h); cases h; exact hq h)]
/-- what tree hands back -/
def PTreeRes (w : World) (g : Nat) (lv : Value) (l : List Tok) (E : Nat) (x : List TF × RS) (r : Ending) (w' : World) : Prop :=
 PsR w g lv l E x.2 (fun r w' => ∃ A c, r = .returned (.agg #[.slice A x.1.length c]) ∧ Sl tfR (low w.heap.size w') (.slice A x.1.length c) x.1) r w'
theorem PTreeRes.mk {w : World} {g : Nat} {lv : Value} {l : List Tok} {E p : Nat} {x : List TF × RS} {w' : World} {A : Option Addr} {c : Nat} {xs : List TF} {n : Nat} (hn : n = xs.length) (hx : x = (xs, (p, false))) (hg : w.grownBy w' (some g)) (hr : Ps w' g lv p E) (h : Sl tfR (low w.heap.size w') (.slice A xs.length c) xs) : PTreeRes w g lv l E x (.returned (.agg #[.slice A n c])) w' := by
 subst hx hn
 exact .mkGood rfl hg hr ⟨A, c, rfl, h⟩
theorem rs_fs {o : Oper} {ρ : Operand → Value} {W : World} {x y : Operand} {b f : Nat} {u : Value} {A : Option Addr} {n c : Nat} (ho : o.op = .store 22 x y) (hx : ρ x = .pointer (some ⟨b, f, none⟩)) (hy : ρ y = .slice A n c) (hc : W.cell? ⟨b, f, none⟩ = some u) (hf : W.frozen? ⟨b, f, none⟩ = false) : (execOp ρ o).run Tryz.prog W = .ok .skip (W.setCell ⟨b, f, none⟩ (.slice A n c)) := by
 simp [execOp, ho, hx, hy, hc, hf, go_sem]
theorem treeD_of {l : List Tok} {E : Nat} {y : List TF × RS} (h : funcsD l E (l.length + 1) (0, false) = y) : treeD l E = (y.1 ++ [⟨place l E y.2.1, emp, [], (varsD l (l.length + 1) (needD l lcurB (needD l mainB y.2))).1, (cmdsD l E (l.length + 1) rcurB (varsD l (l.length + 1) (needD l lcurB (needD l mainB y.2))).2).1, zeroE⟩], needD l rcurB (cmdsD l E (l.length + 1) rcurB (varsD l (l.length + 1) (needD l lcurB (needD l mainB y.2))).2).2) := by
 subst h
 rfl
set_option maxRecDepth 20000 in
set_option maxHeartbeats 4000000 in
theorem ptree_any (l : List Tok) (lv : Value) (E g : Nat) (w0 w : World) (hl : Sl tokR w0 lv l) (hn : l.length ≤ 6000) (hok : ∀ t ∈ l, TokOk t) (hm : ∀ t ∈ l, t.text.size ≤ maxLen) (hg : w0.heap.size ≤ g) (h0 : Bel w0 w) (h : Ps w g lv 0 E) :
  Calls Tryz.prog 91 #[.pointer (some ⟨g, 0, none⟩)] w fun r w' => PTreeRes w g lv l E (treeE l E) r w' := by
 have HNM := Hi_ (kNM (E := E) (g := g) hl hn hm)
 have HTN := Hi_ (kTN (E := E) (g := g) hl hn)
 have HTY := Hi_ (kTY (E := E) (g := g) hl hn)
 have HSE := Hi_ (kSE (E := E) (g := g) hl hn)
 have HNA := Hi_ (kNA (E := E) hl hn hm hg)
 have HEX := Hi_ (kEX (E := E) hl hn hok hm hg)
 have HND := Hi_ (kND (E := E) hl hn hg)
 have HBH := Hi_ (kBH (E := E) (g := g) hl hn)
 have HVA := Hi_ (fun W (k : Nat) (hk : k ≤ l.length) (hb : Bel w0 W) (h : Ps W g lv k E) => pvars_any l lv E g (l.length + 1) k w0 W hl hn hok hm hg hk hb h (by omega) (by omega))
 have HCM := Hi_ (fun W (k : Nat) (s : ByteArray) (hs : s ≠ emp) (hk : k ≤ l.length) (hb : Bel w0 W) (h : Ps W g lv k E) => pcmds_any l lv E g w0 hl hn hok hm hg (l.length + 1) s k W hs (by omega) hk hb h (by omega))
 have HFN := Hi_ (fun W (k : Nat) (hk : k ≤ l.length) (ht : tx l k false = funcB) (hb : Bel w0 W) (h : Ps W g lv k E) => pfn_any l lv E g k w0 W hl hn hok hm hg hk hb h ht)
 have HHE := Hi_ (fun W (k : Nat) (hb : Bel w0 W) (h : Ps W g lv k E) => pplace_any l lv k E g W (hl.keep hb) hn h)
 have HFL := Hi_ (kFL (E := E) (g := g) hl hn)
 have hgl := h.lt
 have hsz : (w.alloc (.cells #[.slice none 0 0] 24)).heap.size = w.heap.size + 1 := by simp
 have HS := Hi_ (BlP.start (p := 0) h 24 #[.slice none 0 0] #[.slice none 0 0] (Bel.rfl_ _))
 rw [hsz] at HS
 obtain ⟨y, hy⟩ : ∃ y, y = funcsD l E (l.length + 1) (0, false) := ⟨_, rfl⟩
 have HEQ := Hi_ (treeD_of hy.symm)
 have HY0 : Hid ((([] : List TF) ++ (funcsD l E (l.length + 1) (0, false)).1, (funcsD l E (l.length + 1) (0, false)).2) = y) := Hi_ hy.symm
 have HLL := Hi_ hl
 clear hy h hl
 go_enter Tryz.func91, Tryz.ntmps91
 go_upto_region 2 with fail
 generalize (w.alloc (.cells #[.slice none 0 0] 24)).alloc (.cells #[.slice none 0 0] 24) = W0 at *
 go_loopw [] (fun wr => ∃ (v : Value) (xs : List TF) (p m : Nat), Hid (BlP w wr wr g lv E p 24 w.heap.size (w.heap.size + 1) #[.slice none 0 0] #[v]) ∧ Hid (OwnL tfR 51 (w.heap.size + 1 + 1) wr v xs) ∧ Hid ((xs ++ (funcsD l E m (p, false)).1, (funcsD l E m (p, false)).2) = y) ∧ l.length - p < m ∧ p ≤ l.length ∧ xs.length + m = l.length + 1) (fun wr => l.length - posOf wr g)
 case atStart => exact ⟨.slice none 0 0, [], 0, l.length + 1, HS, Hi_ (OwnL.nil _ _ _ _), HY0, by omega, by omega, by simp⟩
 case round =>
  obtain ⟨v, xs, p, m, HB, HO, HY, hlt, hq, hxm⟩ := hrel
  clear HS HY0
  obtain ⟨va, vc, rfl⟩ := HO.out.slice
  have hpos : posOf wr g = p := posOf_of HB.out.1.go.2.1
  have hlt0 := HB.out.lt
  by_cases hs : tx l p false = funcB
  ·have HT := Hi_ (decide_eq_true hs)
   have HTF := Hi_ hs
   obtain ⟨m, rfl⟩ : ∃ m', m = m' + 1 := ⟨m - 1, by omega⟩
   have HGO := Hi_ (funcsD_go (E := E) (n := m) (q := (p, false)) rfl hs)
   have HGE := Hi_ (funcD_G (E := E) hok (p, false) rfl hs)
   have hpl := tx_lt (l := l) (p := p) (f := false) (by rw [hs]; decide)
   clear hs
   go_wp2_with fail
   refine (HSE.out _ p funcB true (by decide) HT.out (HB.out.bel h0 hg) HB.out.1).mono ?_
   rintro r w1 ⟨rfl, hb1⟩
   have HOLT : Hid (∀ k, (Value.slice va xs.length vc).ownBlock = some k → k < wr.heap.size) := Hi_ fun k hk => by
    obtain ⟨_, ho, -⟩ := HO.out
    exact (ho.lt k hk).2
   have HWW : Hid (wr.heap.size ≤ w1.heap.size) := Hi_ hb1.size
   replace HB := Hi_ (HB.out.keep hb1).fresh
   replace HO := Hi_ (HO.out.keep tfR_more hb1)
   clear hb1
   go_upto_region 3 with fail
   refine wl_region ?_
   refine wl_k (some 8) (.pointer (some ⟨g, 0, none⟩)) ?_
   refine wl_callp (some 9) rfl (by kernel_rfl) 139 #[.pointer (some ⟨g, 0, none⟩)] (by kernel_rfl) (HFN.out _ p hq HTF.out (HB.out.bel h0 hg) HB.out.1) ?_
   rintro r w2 hres
   generalize funcD l E (p, false) = x2 at *
   obtain ⟨x, q2, f2⟩ := x2
   dsimp only at *
   cases f2 with
   | true =>
    obtain ⟨hgN, rfl⟩ := PsR.bad hres rfl
    have HG2 := Hi_ (HB.out.grew.trans hgN)
    refine Or.inr ⟨_, rfl, ?_⟩
    exact ⟨rfl, .mkBad (treeE_bad (by rw [HEQ.out, ← HY.out, HGO.out]; dsimp only; rw [funcsD_stop (by simp)]; simp only [needD_bad, varsD_bad, cmdsD_bad])) HG2.out⟩
   | false =>
   obtain ⟨hgN, hrN, cs, rfl, hcs⟩ := PsR.good hres rfl
   have HZ1 := Hi_ HB.out.size
   replace HO := Hi_ (HO.out.at_ tfR_more hgN fun k hk => by cases hk; omega)
   have HCZ : Hid (w1.heap.size ≤ w2.heap.size) := Hi_ hgN.size
   replace HB := Hi_ ((HB.out.grown hgN hrN).fresh)
   clear hgN hrN hres
   refine Or.inl ⟨_, rfl, ?_⟩
   have hcl : cs.length = 10 := tfR.len hcs
   have HOC : Hid (∀ u ∈ cs, u.oneCell' = true) := Hi_ (tfR_one hcs)
   have HYN : Hid ((xs ++ [x] ++ (funcsD l E m (q2, false)).1, (funcsD l E m (q2, false)).2) = y) := Hi_ (by rw [← HY.out, HGO.out, List.append_assoc, List.singleton_append])
   refine wl_alloc (some 4) rfl 51 rfl rfl elTF (fun z hz => ?_)
   refine wl_store none rfl 51 (.tmp 4) (.tmp 9) rfl rfl elTF w2.heap.size cs (by kernel_rfl) (by kernel_rfl) (Blk.new _ _ _) hz hcl HOC.out ?_
   rw [World.setRow_alloc_new]
   have hba := (Bel.rfl_ w2).al (.cells cs.toArray 51)
   have hMB := Blk.new w2 51 cs.toArray
   have HCS : Hid (tfR.R (low w1.heap.size (w2.alloc (.cells cs.toArray 51))) cs x) := Hi_ (tfR.keep (low_belB hba) hcs)
   replace HB := Hi_ (HB.out.keep hba).fresh
   replace HO := Hi_ (HO.out.keep tfR_more hba)
   clear hba hcs
   generalize w2.alloc (.cells cs.toArray 51) = W2 at *
   generalize w2.heap.size = M at *
   refine wl_nil ?_
   try simp only [Act.put, lA, lB, lC]
   obtain ⟨cells, ho1, ho2⟩ := HO.out
   have HO1 := Hi_ ho1
   have HO2 := Hi_ ho2
   have hxs : xs.length ≤ 6000 := by omega
   have hgt := HGE.out.2
   have hq2 := HGE.out.1.2.1 hq
   dsimp only at hgt hq2
   have HCC := Hi_ (blk_cells hMB)
   have c0 := HB.out.cell 0 (v := .slice va xs.length vc) rfl
   have HZ := Hi_ HB.out.size
   clear ho1 ho2 HO HY HGO hMB HGE
   go_upto_region 4 with fail
   refine wl_region ?_
   refine wl_k (some 10) (.pointer (some ⟨w.heap.size + 1, 0, none⟩)) ?_
   refine wl_e (some 11) (.slice va xs.length vc) (rl_fs_ c0) ?_
   refine wl_e (some 12) (.agg cs.toArray) (run_loadRow 51 _ rfl elTF M 0 (by kernel_rfl) cs HCC.out hcl (by kernel_rfl)) ?_
   refine wl_one (some 13) rfl rfl 22 51 (.tmp 12) rfl cs (by kernel_rfl) elTF hcl (by decide) ?_
   refine wl_app (some 14) rfl W2 rfl (.tmp 11) (.tmp 13) 22 rfl (w.heap.size + 1 + 1) elTF (.slice va xs.length vc) xs.length _ (by kernel_rfl) HO1.out cs (by kernel_rfl) hcl HOC.out (by simp only [maxLen]; omega) (by omega) HZ.out ?_
   intro g2 cap w10 hown hg10 hv10
   have hob : ∀ j, (Value.slice va xs.length vc).ownBlock = some j → w.heap.size + 1 + 1 ≤ j := fun j hj => (HO1.out.lt j hj).1
   have HB4 := Hi_ (HB.out.app hg10 fun j hj => by have := hob j hj; omega)
   have HPU := Hi_ (OwnL.push tfR_more (C := w1.heap.size) (x := x) HO1.out HO2.out hown hg10 (hv10.imp (fun h => h) fun h k hk => by (have : g2 = k := Option.some.inj hk); omega) HCS.out HZ1.out (fun k hk => Nat.lt_of_lt_of_le (HOLT.out k hk) HWW.out))
   clear hown hg10 hv10 c0
   have c0 := HB4.out.cell 0 (v := .slice va xs.length vc) rfl
   have f0 := HB4.out.frozen 0
   refine wl_k (some 15) (.pointer (some ⟨w.heap.size + 1, 0, none⟩)) ?_
   refine wl_st none rfl (by kernel_rfl) (w10.setCell ⟨w.heap.size + 1, 0, none⟩ (.slice (some ⟨g2, 0, none⟩) (xs.length + 1) cap)) (rs_fs (b := w.heap.size + 1) (f := 0) (A := some ⟨g2, 0, none⟩) (n := xs.length + 1) (c := cap) rfl (by kernel_rfl) (by kernel_rfl) c0 f0) ?_
   refine wl_nil ?_
   try simp only [Act.put, lA, lB, lC]
   have HB5 := Hi_ (show BlP w _ _ g lv E q2 24 w.heap.size (w.heap.size + 1) #[.slice none 0 0] #[.slice (some ⟨g2, 0, none⟩) (xs.length + 1) cap] from (HB4.out.put 0 (.slice (some ⟨g2, 0, none⟩) (xs.length + 1) cap)).fresh2)
   have HP5 := Hi_ (HPU.out.at_ tfR_more (grownS_one w10 (w.heap.size + 1) 0 (.slice (some ⟨g2, 0, none⟩) (xs.length + 1) cap)) fun k hk => by cases hk; exact Nat.lt_succ_self _)
   generalize World.setCell _ _ _ = w5 at *
   have hpos5 : posOf w5 g = q2 := posOf_of HB5.out.1.go.2.1
   go_wp2
   go_roundw
   case rel => exact ⟨_, xs ++ [x], q2, m, HB5, HP5, HYN, by omega, hq2, by rw [List.length_append]; simp only [List.length_cons, List.length_nil]; omega⟩
   case measure => simp [hpos, hpos5]; omega
  ·have HT := Hi_ (decide_eq_false hs)
   have HE := HY.out
   rw [funcsD_stop (q := (p, false)) (by rintro ⟨-, h⟩; exact hs h), List.append_nil] at HE
   have HEQ2 := Hi_ HEQ.out
   rw [← HE] at HEQ2
   dsimp only at HEQ2
   clear hs HY HE HEQ
   have HEQ := HEQ2
   clear HEQ2
   go_wp2_with fail
   refine (HSE.out _ p funcB false (by decide) HT.out (HB.out.bel h0 hg) HB.out.1).mono ?_
   rintro r w1 ⟨rfl, hb1⟩
   replace HB := Hi_ (HB.out.keep hb1).fresh
   replace HO := Hi_ (HO.out.keep tfR_more hb1)
   clear hb1
   go_wp2_with fail
   refine (HHE.out _ p (HB.out.bel h0 hg) HB.out.1).mono ?_
   rintro r w2 ⟨rfl, hb⟩
   have HS := Hi_ (BlF.start HB.out.1 51 #[.int .i64 (place l E p), .string ⟨#[]⟩, .slice none 0 0, .slice none 0 0, .slice none 0 0, .int .i64 0, .int .i64 0, .int .i64 0, .string ⟨#[]⟩, .slice none 0 0] hb)
   have h05 := HB.out.bel h0 hg
   have HG5 := Hi_ HB.out.grew
   have HOV : Hid (∀ k, (Value.slice va xs.length vc).ownBlock = some k → k < w1.heap.size) := Hi_ fun k hk => by
    obtain ⟨_, ho, -⟩ := HO.out
    exact (ho.lt k hk).2
   have HZ1 := Hi_ HB.out.size
   have hxs : xs.length ≤ 6000 := by omega
   clear hb
   go_upto_region 6 with fail
   generalize w2.alloc (.cells #[.int .i64 (place l E p), .string ⟨#[]⟩, .slice none 0 0, .slice none 0 0, .slice none 0 0, .int .i64 0, .int .i64 0, .int .i64 0, .string ⟨#[]⟩, .slice none 0 0] 51) = W2 at *
   generalize w2.heap.size = F at *
   have hp1 := needD_le (l := l) (s := lcurB) (q := needD l mainB (p, false)) (by decide) (needD_le (l := l) (s := mainB) (q := (p, false)) (by decide) hq)
   have hgq : W2.heap.size ≠ g := by have := HS.out.lt; have := HS.out.size; omega
   have hba := (Bel.rfl_ W2).al (.cells #[.string ⟨#[109, 97, 105, 110]⟩, .string ⟨#[123]⟩] 9)
   replace HS := Hi_ (HS.out.keep hba)
   go_wp2_with fail
   refine (HND.out _ p W2.heap.size [mainB, lcurB] (HS.out.bel h05 hg) HS.out.1 (by decide) (by decide) (Blk.new W2 _ _) hgq).mono ?_
   rintro r wv1 hres
   clear hba hgq
   have hnd : needsD l [mainB, lcurB] (p, false) = (needD l lcurB (needD l mainB (p, false))) := rfl
   rw [hnd] at hres
   clear hnd
   generalize (needD l lcurB (needD l mainB (p, false))) = st at *
   obtain ⟨q1, fs⟩ := st
   try dsimp only at *
   cases fs with
   | true =>
    obtain ⟨hgn, rfl⟩ := hres.bad rfl
    have HG := Hi_ (HG5.out.trans (HS.out.grew.trans hgn))
    clear hgn hres
    go_wp2
    exact ⟨rfl, .mkBad (treeE_bad (by rw [HEQ.out]; simp only [needD_bad, varsD_bad, cmdsD_bad])) HG.out⟩
   | false =>
   obtain ⟨hgn, hpn, rfl⟩ := hres.good rfl
   replace HS := Hi_ (HS.out.grown hgn hpn)
   clear hgn hpn hres
   have hp2 := (varsD_G (l := l) hok (l.length + 1) (q1, false)).2.1 hp1
   go_wp2_with fail
   refine (HVA.out _ q1 hp1 (HS.out.bel h05 hg) HS.out.1).mono ?_
   rintro r wv2 hres
   generalize varsD l (l.length + 1) (q1, false) = xe at *
   obtain ⟨vs, q2, fe⟩ := xe
   try dsimp only at *
   cases fe with
   | true =>
    obtain ⟨hgn, rfl⟩ := PsR.bad hres rfl
    have HG := Hi_ (HG5.out.trans (HS.out.grew.trans hgn))
    clear hgn hres
    go_wp2
    exact ⟨rfl, .mkBad (treeE_bad (by rw [HEQ.out]; simp only [needD_bad, cmdsD_bad])) HG.out⟩
   | false =>
   obtain ⟨hgn, hpn, AV, cv, rfl, hsl⟩ := PsR.good hres rfl
   have HSZ := HS.out.size
   replace HS := Hi_ (HS.out.grown hgn hpn)
   replace HS := Hi_ HS.out.fresh
   have HV := Hi_ (low_mono (B' := (F + 1)) tvR_more HSZ hsl)
   clear hgn hpn hres hsl HSZ
   have c3 := HS.out.cell 3 (v := .slice none 0 0) rfl
   have g3 := HS.out.frozen 3
   go_upto_region 8 with fail
   replace HS := Hi_ ((HS.out.put 3 (.slice AV vs.length cv)).to (cs' := #[.int .i64 (place l E p), .string ⟨#[]⟩, .slice none 0 0, .slice AV vs.length cv, .slice none 0 0, .int .i64 0, .int .i64 0, .int .i64 0, .string ⟨#[]⟩, .slice none 0 0]) rfl)
   generalize World.setCell _ _ _ = wv3 at *
   clear c3 g3
   have hp3 := (cmdsD_G (l := l) (E := E) hok (l.length + 1) rcurB (q2, false)).2.1 hp2
   go_wp2_with fail
   refine (HCM.out _ q2 rcurB (by decide) hp2 (HS.out.bel h05 hg) HS.out.1).mono ?_
   rintro r wv4 hres
   generalize cmdsD l E (l.length + 1) rcurB (q2, false) = xe at *
   obtain ⟨cs, q3, fe⟩ := xe
   try dsimp only at *
   cases fe with
   | true =>
    obtain ⟨hgn, rfl⟩ := PsR.bad hres rfl
    have HG := Hi_ (HG5.out.trans (HS.out.grew.trans hgn))
    clear hgn hres
    go_wp2
    exact ⟨rfl, .mkBad (treeE_bad (by rw [HEQ.out]; simp only [needD_bad])) HG.out⟩
   | false =>
   obtain ⟨hgn, hpn, AC, cc, rfl, hsl⟩ := PsR.good hres rfl
   have HSZ := HS.out.size
   replace HS := Hi_ (HS.out.grown hgn hpn)
   replace HV := Hi_ (HV.out.keep HS.out.low_)
   replace HS := Hi_ HS.out.fresh
   have HC := Hi_ (low_mono (B' := (F + 1)) tcR_more HSZ hsl)
   clear hgn hpn hres hsl HSZ
   have c4 := HS.out.cell 4 (v := .slice none 0 0) rfl
   have g4 := HS.out.frozen 4
   go_upto_region 9 with fail
   replace HS := Hi_ ((HS.out.put 4 (.slice AC cs.length cc)).to (cs' := #[.int .i64 (place l E p), .string ⟨#[]⟩, .slice none 0 0, .slice AV vs.length cv, .slice AC cs.length cc, .int .i64 0, .int .i64 0, .int .i64 0, .string ⟨#[]⟩, .slice none 0 0]) rfl)
   generalize World.setCell _ _ _ = wv5 at *
   clear c4 g4
   have hp4 := needD_le (l := l) (s := rcurB) (q := (q3, false)) (by decide) hp3
   have hgq : wv5.heap.size ≠ g := by have := HS.out.lt; have := HS.out.size; omega
   have hba := (Bel.rfl_ wv5).al (.cells #[.string ⟨#[125]⟩] 9)
   replace HS := Hi_ (HS.out.keep hba)
   go_wp2_with fail
   refine (HND.out _ q3 wv5.heap.size [rcurB] (HS.out.bel h05 hg) HS.out.1 (by decide) (by decide) (Blk.new wv5 _ _) hgq).mono ?_
   rintro r wv6 hres
   clear hba hgq
   have hnd : needsD l [rcurB] (q3, false) = (needD l rcurB (q3, false)) := rfl
   rw [hnd] at hres
   clear hnd
   generalize (needD l rcurB (q3, false)) = st at *
   obtain ⟨q4, fs⟩ := st
   try dsimp only at *
   cases fs with
   | true =>
    obtain ⟨hgn, rfl⟩ := hres.bad rfl
    have HG := Hi_ (HG5.out.trans (HS.out.grew.trans hgn))
    clear hgn hres
    go_wp2
    exact ⟨rfl, .mkBad (treeE_bad (by rw [HEQ.out])) HG.out⟩
   | false =>
   obtain ⟨hgn, hpn, rfl⟩ := hres.good rfl
   replace HS := Hi_ (HS.out.grown hgn hpn)
   clear hgn hpn hres
   have HL := Hi_ (HLL.out.keep (HS.out.bel h05 hg))
   obtain ⟨LA, lc, rfl, -⟩ := id HL.out
   obtain ⟨y0, y1, y2, yf⟩ := HS.out.1.go
   clear y2 yf
   by_cases hleft : q4 < l.length
   ·have d1 : decide (q4 < l.length) = true := decide_eq_true hleft
    have HLF := Hi_ hleft
    clear hleft HL
    go_upto_region 10 with fail
    go_quiet (fail)
    replace HS := Hi_ (HS.out.keep ((Bel.rfl_ _).drN nq))
    go_wp2_with fail
    refine (HFL.out _ q4 (HS.out.bel h05 hg) HS.out.1).mono ?_
    rintro r wf ⟨rfl, hb⟩
    have HG := Hi_ (HG5.out.trans ((HS.out.keep hb).grew))
    clear hb
    go_wp2
    exact ⟨rfl, .mkBad (treeE_left (by rw [HEQ.out]) HLF.out) HG.out⟩
   have d1 : decide (q4 < l.length) = false := decide_eq_false hleft
   have HEE := Hi_ (treeE_good HEQ.out hleft)
   clear hleft HL
   go_upto_region 10 with fail
   go_quiet (fail)
   replace HS := Hi_ (HS.out.keep ((Bel.rfl_ _).drN nq))
   clear y0 y1
   generalize World.drewN _ _ = W9 at *
   replace HV := Hi_ (HV.out.keep HS.out.low_)
   replace HC := Hi_ (HC.out.keep HS.out.low_)
   replace HS := Hi_ HS.out.fresh
   have HBB := Hi_ ((HB.out.grown HS.out.grew HS.out.1).fresh)
   have HOO := Hi_ (HO.out.at_ tfR_more HS.out.grew fun k hk => by cases hk; omega)
   have HCC := Hi_ (blk_cells (cs := [.int .i64 (place l E p), .string ⟨#[]⟩, .slice none 0 0, .slice AV vs.length cv, .slice AC cs.length cc, .int .i64 0, .int .i64 0, .int .i64 0, .string ⟨#[]⟩, .slice none 0 0]) HS.out.2.1)
   have HFS := Hi_ HS.out.lt
   have HFZ := HS.out.size
   have HTR : Hid (tfR.R (low (F + 1) W9) [.int .i64 (place l E p), .string ⟨#[]⟩, .slice none 0 0, .slice AV vs.length cv, .slice AC cs.length cc, .int .i64 0, .int .i64 0, .int .i64 0, .string ⟨#[]⟩, .slice none 0 0] ⟨place l E p, emp, [], vs, cs, zeroE⟩) := Hi_ ⟨_, _, _, _, rfl, Nat.zero_le _, Nat.zero_le _, Sl.nil_ _ _, HV.out, HC.out, Sl.nil_ _ _⟩
   obtain ⟨cells, ho1, ho2⟩ := HOO.out
   have HO1 := Hi_ ho1
   have HO2 := Hi_ ho2
   have c0 := HBB.out.cell 0 (v := .slice va xs.length vc) rfl
   have HZ := Hi_ HBB.out.size
   clear ho1 ho2 HOO HB HO
   go_upto_region 12 with fail
   refine wl_region ?_
   refine wl_k (some 43) (.pointer (some ⟨w.heap.size + 1, 0, none⟩)) ?_
   refine wl_e (some 44) (.slice va xs.length vc) (rl_fs_ c0) ?_
   refine wl_e (some 45) (.agg #[.int .i64 (place l E p), .string ⟨#[]⟩, .slice none 0 0, .slice AV vs.length cv, .slice AC cs.length cc, .int .i64 0, .int .i64 0, .int .i64 0, .string ⟨#[]⟩, .slice none 0 0]) (run_loadRow 51 _ rfl elTF F 0 (by kernel_rfl) [.int .i64 (place l E p), .string ⟨#[]⟩, .slice none 0 0, .slice AV vs.length cv, .slice AC cs.length cc, .int .i64 0, .int .i64 0, .int .i64 0, .string ⟨#[]⟩, .slice none 0 0] HCC.out rfl (by kernel_rfl)) ?_
   refine wl_one (some 46) rfl rfl 22 51 (.tmp 45) rfl [.int .i64 (place l E p), .string ⟨#[]⟩, .slice none 0 0, .slice AV vs.length cv, .slice AC cs.length cc, .int .i64 0, .int .i64 0, .int .i64 0, .string ⟨#[]⟩, .slice none 0 0] (by kernel_rfl) elTF rfl (by decide) ?_
   refine wl_app (some 47) rfl W9 rfl (.tmp 44) (.tmp 46) 22 rfl (w.heap.size + 1 + 1) elTF (.slice va xs.length vc) xs.length _ (by kernel_rfl) HO1.out [.int .i64 (place l E p), .string ⟨#[]⟩, .slice none 0 0, .slice AV vs.length cv, .slice AC cs.length cc, .int .i64 0, .int .i64 0, .int .i64 0, .string ⟨#[]⟩, .slice none 0 0] (by kernel_rfl) rfl (tfR_one HTR.out) (by simp only [maxLen]; omega) (by omega) HZ.out ?_
   intro g2 cap w10 hown hg10 hv10
   have hob : ∀ j, (Value.slice va xs.length vc).ownBlock = some j → w.heap.size + 1 + 1 ≤ j := fun j hj => (HO1.out.lt j hj).1
   have HB4 := Hi_ (HBB.out.app hg10 fun j hj => by have := hob j hj; omega)
   have HPU := Hi_ (OwnL.push tfR_more (C := F + 1) (x := (⟨place l E p, emp, [], vs, cs, zeroE⟩ : TF)) HO1.out HO2.out hown hg10 (hv10.imp (fun h => h) fun h k hk => by (have : g2 = k := Option.some.inj hk); omega) HTR.out (by have := HFS.out; have := HZ1.out; omega) (fun k hk => by have := HOV.out k hk; have := HFS.out; omega))
   clear hown hg10 hv10 c0
   have c0 := HB4.out.cell 0 (v := .slice va xs.length vc) rfl
   have f0 := HB4.out.frozen 0
   refine wl_k (some 48) (.pointer (some ⟨w.heap.size + 1, 0, none⟩)) ?_
   refine wl_st none rfl (by kernel_rfl) (w10.setCell ⟨w.heap.size + 1, 0, none⟩ (.slice (some ⟨g2, 0, none⟩) (xs.length + 1) cap)) (rs_fs (b := w.heap.size + 1) (f := 0) (A := some ⟨g2, 0, none⟩) (n := xs.length + 1) (c := cap) rfl (by kernel_rfl) (by kernel_rfl) c0 f0) ?_
   refine wl_nil ?_
   try simp only [Act.put, lA, lB, lC]
   have HB5 := Hi_ (show BlP w _ _ g _ E q4 24 w.heap.size (w.heap.size + 1) #[.slice none 0 0] #[.slice (some ⟨g2, 0, none⟩) (xs.length + 1) cap] from (HB4.out.put 0 (.slice (some ⟨g2, 0, none⟩) (xs.length + 1) cap)).fresh2)
   have HP5 := Hi_ (HPU.out.at_ tfR_more (grownS_one w10 (w.heap.size + 1) 0 (.slice (some ⟨g2, 0, none⟩) (xs.length + 1) cap)) fun k hk => by cases hk; exact Nat.lt_succ_self _)
   generalize World.setCell _ _ _ = w5 at *
   go_upto_region 13 with fail
   refine wp_move_row 24 (.tmp 3) (.tmp 2) (.tmp 49) rfl rfl rfl rfl (w.heap.size + 1) w.heap.size rfl 24 _ _ HB5.out.2.1 HB5.out.2.2.1 rfl rfl _ Tryz.underlying24 rfl (by kernel_rfl) rfl (by simp [Value.oneCell']) ?_
   have HF := Hi_ (HB5.out.row_)
   replace HP5 := Hi_ (HP5.out.sl tfR_more)
   generalize World.setRow _ _ _ = W99 at *
   go_wp2
   have hlt3 := HF.out.lt
   refine bodyPost_ret (results_cell_row rfl _ _ w.heap.size 24 _ (0, 0) _ rfl HF.out.2.2.1 Tryz.underlying24 rfl (by kernel_rfl)) rfl (PTreeRes.mk (by simp) HEE.out HF.out.grew HF.out.1 ?_)
   refine low_mono tfR_more (by omega) (B := w.heap.size + 1 + 1) ?_
   have := HP5.out.keep HF.out.low_
   rwa [show (xs ++ [(⟨place l E p, emp, [], vs, cs, zeroE⟩ : TF)]).length = xs.length + 1 from by simp]
end Go.Proofs.YtmfjlcpjemccmaaGreatDoor
