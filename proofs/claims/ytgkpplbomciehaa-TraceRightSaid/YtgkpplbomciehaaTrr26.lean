/- A call: walked. Each lemma states its own conditions. -/
import Derived.Test.YtgkpplbomciehaaTrr25
namespace Go.Proofs.Ytgkpplbomciehaa
open Go.RowKit
abbrev FNT : TypeId := 78
def CallIs (E : Env) (N : Nat) : Prop := ∀ (p : Spot) (x : PC) (a : Int) (T : List Tk) (σ : Mc) (wb w : World) (F : Fr) (z : List Int) (val : Value), NextC E p x a T σ wb F z → σ.steps ≠ E.fuel → x.kind = 3 → RunM E w (σ.on F p.rest a F.tasks) (p.rest.length + 1) → FrM w p.lo p.fb p.num a F.vars → E.L ≤ p.lo → PCV E.w0 x val → E.fuel - (σ.steps + 1) ≤ N →
  Calls Try.prog 159 #[.pointer (some ⟨E.r, 0, none⟩), .pointer (some ⟨p.fb, 0, none⟩), val] w fun y w' => ∃ b, y = .returned (.bool b) ∧ Res E p T σ w b w'
theorem own_lit {w : World} {base size n : Nat} {e : TypeId} {v : Value} {xs : List Value} (h : w.ownsRow base e size v n xs) : ∃ A c, v = .slice A n c := by
  rcases h.2 with ⟨rfl, rfl⟩ | ⟨g, cap, cur, rfl, _⟩
  · exact ⟨none, 0, rfl⟩
  · exact ⟨_, cap, rfl⟩
theorem VarsO.lit {w : World} {lo : Nat} {v : Value} {vs : List (List Int)} (h : VarsO w lo v vs) : ∃ A c, v = .slice A vs.length c := by
  obtain ⟨gs, h⟩ := h
  exact own_lit h.row
theorem FrM.c01 {w : World} {lo fb : Nat} {num at_ : Int} {vs : List (List Int)} (h : FrM w lo fb num at_ vs) : w.cell? ⟨fb, 0, none⟩ = some (.int .i64 num) ∧ w.cell? ⟨fb, 1, none⟩ = some (.int .i64 at_) := by
  obtain ⟨-, v, hB, -⟩ := h
  exact ⟨hB.cell rfl, hB.cell rfl⟩
/-- arguments are written to variables that there are -/
theorem args_fit {ps : List PF} {i : Nat} {G : PF} (hf : FnOk ps i G) {vals : List Int} (hn : ∀ n ∈ vals, Num n) (hl : (vals.length : Int) = G.params) {j : Nat} (hj : j < vals.length) : ∃ l, (setAll (zeroV G.sizes) (vals.take j) 0)[j]? = some l ∧ 0 < l.length := by
  have hfit : Fits G.sizes (setAll (zeroV G.sizes) (vals.take j) 0) := Fits.all (fun n h => hn n (List.mem_of_mem_take h)) (Fits.zero hf.sz)
  have h1 := hf.par1
  have hjs : j < G.sizes.length := by omega
  have hjl : j < (setAll (zeroV G.sizes) (vals.take j) 0).length := by rw [hfit.1]; exact hjs
  refine ⟨_, List.getElem?_eq_getElem hjl, (hfit.2 j _ (List.getElem?_eq_getElem hjl)).1 ?_⟩
  rw [List.getD_eq_getElem?_getD, List.getElem?_eq_getElem hjs, Option.getD_some, hf.pz G.sizes[j] ?_]
  · exact Int.le_refl _
  · refine List.mem_of_getElem? (i := j) ?_
    rw [List.getElem?_take, if_pos (by omega), List.getElem?_eq_getElem hjs]
/-- arguments so far -/
def ArgsN (w : World) (B : Nat) (v : Value) (vs : List (List Int)) (l : List PE) : Prop := (∀ y ∈ l, (y.val vs).2 = 0) ∧ w.ownsRow B INT 1 v l.length ((l.map fun y => (y.val vs).1).map (Value.int .i64))
set_option maxRecDepth 20000 in
set_option maxHeartbeats 16000000 in
theorem call_of (E : Env) (hp : Prog E.ps) (hfu : E.fuel ≤ 10000) (N : Nat) (HALL : AllIs E N) (hfs : (∀ i, i < E.ps.length → E.fs.l[i]? = some (firstC E.ps i)) ∧ E.fs.l.length = E.ps.length) : CallIs E N := by
  intro p x a T σ wb w F z val hnx hs hk hr hF hL hx hN
  have HAL := Lib.hid HALL
  have HFS := Lib.hid hfs
  have HLL := Lib.hid hL
  have HNX := Lib.hid hnx
  have HS := Lib.hid hs
  have HK3 := Lib.hid hk
  have HN := Lib.hid hN
  have HPR := Lib.hid hp
  have HFU := Lib.hid hfu
  obtain ⟨cs, hcs, rfl⟩ := hx
  have HB1 : Hid (Bel w (w.alloc (.cells cs.toArray CMT))) := Lib.hid ((Bel.rfl_ w).al _)
  have HX1 := Lib.hid (Blk.new w CMT cs.toArray)
  have HR1 := Lib.hid (RnM.keep hr HB1.out)
  have HF1 := Lib.hid (hF.keep HB1.out)
  have HLO := Lib.hid (show p.lo ≤ w.heap.size from Nat.le_trans hF.1 (by obtain ⟨-, v, hB, -⟩ := hF; exact Nat.le_of_lt hB.lt))
  have HST1 : Hid (Stays E.w0.heap.size p.lo w (w.alloc (.cells cs.toArray CMT))) := Lib.hid (Stays.bel HB1.out (RnM.bel hr).size)
  have HOL : Hid ((σ.on F p.rest a F.tasks).out.length ≤ 71000) := Lib.hid (by have := (hnx.good.outs hfu).1; unfold Mc.on; simp; omega)
  obtain ⟨calls, hcl, hci⟩ := hnx.is
  obtain ⟨hfn0, hfn1⟩ := hci.fn hk
  obtain ⟨hal3, hag⟩ := hp.args hfn0 (by omega) (hci.args hk)
  have HARG : Hid (∀ y ∈ x.args, y.parts z = 0) := Lib.hid (fun y hy => PE.err_ok (hci.all y hy))
  obtain ⟨vi, ve, va, vt, vz, hq, -, -, hva, -, -⟩ := pcCells hcs
  obtain ⟨Aa, ca, rfl, hll⟩ := sl_lit hva
  have HVA := Lib.hid hva
  have HC1 : Hid (cs.toArray[1]? = some (.int .i64 x.var)) := Lib.hid (by rw [hq]; rfl)
  have HC2 : Hid (cs.toArray[2]? = some (.int .i64 x.fn)) := Lib.hid (by rw [hq]; rfl)
  have c9 := HX1.out.cell (i := 9) (v := .slice Aa x.args.length ca) (by rw [hq]; rfl)
  have HAG := Lib.hid hag
  have HCI : Hid (x.var < z.length ∧ 0 ≤ x.var ∧ z.getD x.var.toNat 0 ≤ 0) := Lib.hid ⟨(hci.var (by omega)).2, (hci.var (by omega)).1, hci.one (by omega) (by omega)⟩
  have hfl : x.fn + 1 < E.ps.length := by omega
  have HA0 : Hid (ArgsN (w.alloc (.cells cs.toArray CMT)) (w.alloc (.cells cs.toArray CMT)).heap.size (.slice none 0 0) F.vars (x.args.take 0)) := Lib.hid ⟨fun y hy => by simp at hy, World.ownsRow_nil _ _ _ _⟩
  clear HALL hfs hL hnx hs hN hp hfu hr hF hcs hci hva hag hcl hfn1 hq hk
  go_enter Try.func159, Try.ntmps159
  go_wp2
  generalize hW1 : w.alloc (.cells cs.toArray CMT) = W1 at *
  clear hW1
  generalize hQ : w.heap.size = Q at *
  have HQ := Lib.hid hQ
  clear hQ
  go_loopw [7, 21] (fun v i wr => ∃ j : Nat, i = .int .i64 j ∧ j ≤ x.args.length ∧ Hid (ArgsN wr W1.heap.size v F.vars (x.args.take j)) ∧ Hid (Bel W1 wr)) (fun _ i _ => x.args.length - (intOf i).toNat)
  case atStart => exact ⟨0, rfl, Nat.zero_le _, HA0, Lib.hid (Bel.rfl_ _)⟩
  case round =>
    obtain ⟨j, rfl, hj, HA, HB⟩ := hrel
    obtain ⟨WO, hWO⟩ : ∃ W, W = wr := ⟨_, rfl⟩
    subst hWO
    have HR2 := Lib.hid (RnM.keep HR1.out HB.out)
    have HF2 := Lib.hid (HF1.out.keep HB.out)
    have HX2 := Lib.hid (HX1.out.keep HB.out)
    have HST2 := Lib.hid (HST1.out.tr (Stays.bel HB.out (RnM.bel HR1.out).size))
    have HQ2 := Lib.hid (Nat.le_trans HX1.out.lt HB.out.size)
    clear HA0 c9
    by_cases hlt : j < x.args.length
    · have hdd : decide ((j : Int) < x.args.length) = true := decide_eq_true (by omega)
      obtain ⟨e, he⟩ : ∃ e, x.args[j]? = some e := ⟨_, List.getElem?_eq_getElem hlt⟩
      have HBW := Lib.hid (RnM.bel HR2.out)
      obtain ⟨b, o, es, rfl, hes, hea⟩ := HVA.out.elem he
      have HES : Hid (PER E.w0 e es) := Lib.hid hes
      have HEA := Lib.hid (hea.keep HBW.out)
      have HEP := Lib.hid (HARG.out e (List.mem_of_getElem? he))
      have HEJ := Lib.hid he
      have i0 : (0 : Int) ≤ j := by omega
      have i1 : (j : Int) < x.args.length := by omega
      clear hes hea he HR1 HF1 HX1 HST1
      go_upto_region 5 with (refine copyPE (.tmp 23) (.tmp 9) (.tmp 24) rfl rfl rfl rfl rfl rfl b (o + j * 3) (by exact rfl) es HEA.out HES.out (by exact rfl) (by exact rfl) ?_)
      have HBE : Hid (Bel WO (WO.alloc (.cells es.toArray 47))) := Lib.hid ((Bel.rfl_ WO).al _)
      have HE := Lib.hid (Blk.new WO 47 es.toArray)
      obtain ⟨vv, hq2, hev⟩ := peCells HES.out
      have HEV : Hid (PEV E.w0 e (.agg #[.int .i64 e.kind, .int .i64 e.n, vv])) := Lib.hid ⟨vv, rfl, hev⟩
      have e0 := HE.out.cell (i := 0) (v := .int .i64 e.kind) (by rw [hq2]; rfl)
      have e1 := HE.out.cell (i := 1) (v := .int .i64 e.n) (by rw [hq2]; rfl)
      have e2 := HE.out.cell (i := 2) (v := vv) (by rw [hq2]; rfl)
      clear hq2 hev HEA HES HE
      generalize hW2 : WO.alloc _ = W2 at *
      clear hW2
      generalize hKK : WO.heap.size = K at *
      have HKK := Lib.hid hKK
      clear hKK
      go_wp2_with fail
      refine (value_is (RnM.keep HR2.out HBE.out) (by have := HOL.out; omega) (HF2.out.keep HBE.out) HNX.out.num HNX.out.fits HEP.out (HEV.out.keep (HBW.out.tr HBE.out))).mono ?_
      rintro y W5 (⟨hv5, rfl, hb5⟩ | ⟨hv5, rfl, hr5, hst5⟩)
      · have HBQ := Lib.hid (HBE.out.tr hb5)
        have HA5 := Lib.hid (HBQ.out.own HA.out.2)
        have HV5 := Lib.hid hv5
        have hjl : (x.args.take j).length = j := by rw [List.length_take]; omega
        have HTS := Lib.hid (take_snoc HEJ.out)
        have HQ5 := Lib.hid (Nat.le_trans HB.out.size HBQ.out.size)
        clear hb5 hv5 e0 e1 e2
        go_wp2_with (at_builtin; go_loud (refine wpl_app W5 rfl (.tmp 34) (.tmp 36) 23 rfl W1.heap.size elI u7 (x.args.take j).length _ rfl HA5.out [.int .i64 (e.val F.vars).1] rfl rfl (by simp [Value.oneCell']) (by simp only [maxLen]; omega) (by omega) HQ5.out ?_); intro g2 cap w4 hown4 hg4 _; have HO4 := Lib.hid hown4; have HG4 := Lib.hid hg4; clear hown4 hg4)
        go_roundw
        case rel =>
          refine ⟨j + 1, by go_num, by omega, Lib.hid ⟨?_, ?_⟩, Lib.hid (Below.grown (HB.out.tr HBQ.out) HG4.out (Nat.le_trans HB.out.size HBQ.out.size) (fun k hk => (HA5.out.lt k hk).1))⟩
          · rw [HTS.out]
            intro y hy
            rcases List.mem_append.1 hy with hy | hy
            · exact HA.out.1 y hy
            · obtain rfl := List.mem_singleton.1 hy
              exact HV5.out
          · have := HO4.out
            rw [HTS.out, List.length_append, List.map_append, List.map_append]
            rw [hjl] at this ⊢
            exact this
        case measure => simp [intOf]; omega
      · have hd : σ.do_ E.ps E.fuel = (σ.on F p.rest a F.tasks).end_ a (e.val F.vars).2 := by
          have h1 := argsV_fail HEJ.out HA.out.1 hv5
          rw [Mc.do_call HNX.out.good.fr HNX.out.tk HS.out HK3.out, Mc.call_fail (by rw [h1]; exact hv5), h1]
        have HRES : Hid (Res E p T σ w false W5) := Lib.hid (Res.over (Reach.one HNX.out.good.on hd) ((HST2.out.tr (Stays.bel HBE.out (RnM.bel HR2.out).size)).tr hst5) rfl hr5)
        clear hr5 hst5 hd hv5 e0 e1 e2
        go_wp2
        go_ret
        exact ⟨false, rfl, HRES.out⟩
    have hdd : decide ((j : Int) < x.args.length) = false := decide_eq_false (by omega)
    have hjl : j = x.args.length := by omega
    subst hjl
    have hAA := HA.out
    rw [List.take_length] at hAA
    obtain ⟨hz0, hown⟩ := hAA
    have HAV := Lib.hid (argsV_all hz0)
    have HOW := Lib.hid hown
    have HVL : Hid ((x.args.map fun y => (y.val F.vars).1).length = x.args.length) := Lib.hid (List.length_map ..)
    clear hz0 hown HA HR1 HF1 HX1 HST1 HARG HVA
    generalize hVALS : (x.args.map fun y => (y.val F.vars).1) = vals at *
    clear hVALS
    have f1 : WO.cell? ⟨p.fb, 1, none⟩ = some (.int .i64 a) := by obtain ⟨-, v, hB, -⟩ := HF2.out; exact hB.cell rfl
    have r5 : WO.cell? ⟨E.r, 5, none⟩ = some (.int .i64 (p.rest.length + 1)) := by obtain ⟨vp, vin, vf, ve, hB⟩ := RnM.blk HR2.out; exact hB.cell rfl
    by_cases h5 : p.rest.length = 5
    · have d5 : (((p.rest.length : Int) + 1) == 6) = true := by rw [h5]; rfl
      have hd : σ.do_ E.ps E.fuel = (σ.on F p.rest a F.tasks).end_ a 4 := by
        rw [Mc.do_call HNX.out.good.fr HNX.out.tk HS.out HK3.out, Mc.call_deep (by rw [HAV.out]) h5]
      have HD := Lib.hid hd
      clear hd h5
      go_wp2_with fail
      refine (end_any HR2.out (by have := HOL.out; omega) HF2.out a 4).mono ?_
      rintro y W5 ⟨rfl, hr5, hk5⟩
      have HRES : Hid (Res E p T σ w false W5) := Lib.hid (Res.over (Reach.one HNX.out.good.on HD.out) (HST2.out.tr (Stays.told hk5 (Nat.le_trans HLO.out (HQ.out ▸ HST2.out.k.size)))) rfl (by unfold RunM Mc.end_; dsimp only; rw [show (σ.on F p.rest a F.tasks).num = F.num from rfl, HNX.out.num]; exact hr5))
      clear hr5 hk5 f1 r5 d5
      go_wp2
      go_ret
      exact ⟨false, rfl, HRES.out⟩
    have d5 : (((p.rest.length : Int) + 1) == 6) = false := by rw [beq_eq_false_iff_ne]; omega
    have HD : Hid (σ.do_ E.ps E.fuel = Mc.inn E.ps σ F p.rest x a vals) := Lib.hid (by
      rw [Mc.do_call HNX.out.good.fr HNX.out.tk HS.out HK3.out, Mc.call_in (by rw [HAV.out]) h5, HAV.out])
    clear h5
    go_upto_region 12 with fail
    obtain ⟨vp, hvp, hps⟩ := RnM.prog HR2.out
    obtain ⟨Af, cf, rfl, -⟩ := sl_lit hps
    have hg := Prog.get hfn0 (show x.fn < E.ps.length by omega)
    have HFN := Lib.hid (HPR.out.fns _ _ hg)
    have HCM := Lib.hid (HPR.out.cmds hg)
    obtain ⟨bf, of, fcs, rfl, hfc, hfa⟩ := hps.elem hg
    have HFA := Lib.hid (hfa.keep (RnM.bel HR2.out))
    have HFO : Hid (∀ u ∈ fcs, u.oneCell' = true) := Lib.hid (pfR_one (W := E.w0) hfc)
    obtain ⟨vz2, vc2, vr2, hfq, hsz, hcm, hre⟩ := hfc
    have HFL : Hid (fcs.length = 6) := Lib.hid (by rw [hfq]; rfl)
    have HF1c : Hid (fcs.toArray[1]? = some vz2) := Lib.hid (by rw [hfq]; rfl)
    have HF2c : Hid (fcs.toArray[2]? = some vc2) := Lib.hid (by rw [hfq]; rfl)
    have HF3c : Hid (fcs.toArray[3]? = some (.int .i64 (E.ps.getD x.fn.toNat noF).result.kind)) := Lib.hid (by rw [hfq]; rfl)
    have HF4c : Hid (fcs.toArray[4]? = some (.int .i64 (E.ps.getD x.fn.toNat noF).result.n)) := Lib.hid (by rw [hfq]; rfl)
    have HF5c : Hid (fcs.toArray[5]? = some vr2) := Lib.hid (by rw [hfq]; rfl)
    have HVZ := Lib.hid hsz
    have HVC := Lib.hid hcm
    have HVR := Lib.hid hre
    have HGE := Lib.hid hg
    have HVP := Lib.hid hvp
    have i2 : x.fn < E.ps.length := by omega
    clear hps hg hfa hfq hsz hcm hre hvp
    generalize hG : E.ps.getD x.fn.toNat noF = G at *
    have HGG := Lib.hid hG
    clear hG
    obtain ⟨Al, cl, rfl⟩ := own_lit HOW.out
    refine wp_region_held_drew (S := fun W => Bel WO W) (by kernel_rfl) ((Bel.rfl_ WO).dr) (fun hS => ?_)
    refine rt_take (i := 0) (some 51) (.pointer (some ⟨E.r, 0, none⟩)) rfl rfl (by kernel_rfl) (by kernel_rfl) (by kernel_rfl) (fun _ _ _ h => h) (by kernel_rfl) hS (fun W _ => by kernel_rfl) ?_
    refine rt_take (i := 1) (some 52) (.pointer (some ⟨E.r, 0, none⟩)) rfl rfl (by kernel_rfl) (by kernel_rfl) (by kernel_rfl) (fun _ _ _ h => h) (by kernel_rfl) hS (fun W _ => by kernel_rfl) ?_
    refine rt_take (i := 2) (some 53) (.pointer (some ⟨E.r, 0, none⟩)) rfl rfl (by kernel_rfl) (by kernel_rfl) (by kernel_rfl) (fun _ _ _ h => h) (by kernel_rfl) hS (fun W _ => by kernel_rfl) ?_
    refine rt_take (i := 3) (some 54) (.pointer (some ⟨E.r, 0, none⟩)) rfl rfl (by kernel_rfl) (by kernel_rfl) (by kernel_rfl) (fun _ _ _ h => h) (by kernel_rfl) hS (fun W _ => by kernel_rfl) ?_
    refine rt_take (i := 4) (some 55) (.slice (some ⟨bf, of, none⟩) E.ps.length cf) rfl rfl (by kernel_rfl) (by kernel_rfl) (by kernel_rfl) (fun _ _ _ h => h) (by kernel_rfl) hS (fun W hb => rl_fs rfl (by kernel_rfl) (hb.cell HVP.out)) ?_
    refine rt_take (i := 5) (some 56) (.pointer (some ⟨Q, 2, none⟩)) rfl rfl (by kernel_rfl) (by kernel_rfl) (by kernel_rfl) (fun _ _ _ h => h) (by kernel_rfl) hS (fun W _ => by kernel_rfl) ?_
    refine rt_take (i := 6) (some 57) (.int .i64 x.fn) rfl rfl (by kernel_rfl) (by kernel_rfl) (by kernel_rfl) (fun _ _ _ h => h) (by kernel_rfl) hS (fun W hb => rl_int rfl (by kernel_rfl) ((HX2.out.keep hb).cell HC2.out)) ?_
    refine rt_take (i := 7) (some 58) (.pointer (some ⟨bf, of + x.fn.toNat * 6, none⟩)) rfl rfl (by kernel_rfl) (by kernel_rfl) (by kernel_rfl) (fun _ _ _ h => h) (by kernel_rfl) hS (fun W _ => by go_simp) ?_
    refine rt_take (i := 8) (some 59) (.agg fcs.toArray) rfl rfl (by kernel_rfl) (by kernel_rfl) (by kernel_rfl) (fun _ _ _ h => h) (by kernel_rfl) hS (fun W hb => run_loadRow FNT (.tmp 58) rfl elPF bf (of + x.fn.toNat * 6) (by kernel_rfl) fcs (HFA.out.keep hb) HFL.out (by kernel_rfl)) ?_
    refine st_one (i := 9) (by kernel_rfl) (st_alloc (some 12) rfl rfl FNT rfl rfl elPF ?_)
    intro zc hzc
    have hS2 : Bel WO (WO.drew.alloc (.cells zc FNT)) := hS.al _
    refine ⟨hS2, ?_⟩
    refine st_one (i := 10) (by kernel_rfl) (st_store none rfl rfl FNT (.tmp 12) (.tmp 59) rfl rfl elPF WO.drew.heap.size fcs (by kernel_rfl) (by kernel_rfl) (Blk.new WO.drew FNT zc) hzc HFL.out HFO.out (hS2.row (Nat.le_refl _) _) ?_)
    refine wpAnyH_done (by kernel_rfl) ?_ _
    try simp only [Act.put, List.setIfInBounds_toArray, List.set_cons_zero, List.set_cons_succ]
    have HB3 : Hid (Bel WO ((WO.drew.alloc (.cells zc FNT)).setRow WO.drew.heap.size fcs.toArray)) := Lib.hid (hS2.row (Nat.le_refl _) _)
    have HKF : Hid (Blk ((WO.drew.alloc (.cells zc FNT)).setRow WO.drew.heap.size fcs.toArray) WO.drew.heap.size FNT fcs.toArray) := Lib.hid ((Blk.new WO.drew FNT zc).row_same _)
    clear hS hS2 hzc HFA HVP HFO HFL
    generalize (WO.drew.alloc (.cells zc FNT)).setRow WO.drew.heap.size fcs.toArray = W3 at *
    generalize WO.drew.heap.size = K at *
    go_upto_region 13 with fail
    have HR3 := Lib.hid (RnM.keep HR2.out HB3.out)
    have HF3 := Lib.hid (HF2.out.keep HB3.out)
    have HX3 := Lib.hid (HX2.out.keep HB3.out)
    have HW3 := Lib.hid (HB3.out.own HOW.out)
    have HST3 := Lib.hid (HST2.out.tr (Stays.bel HB3.out (RnM.bel HR2.out).size))
    have HB03 := Lib.hid (RnM.bel HR3.out)
    have R4 : Hid (W3.cell? ⟨E.r, 4, none⟩ = some (.int .i64 σ.made)) := Lib.hid (by obtain ⟨vp, vin, vf, ve, hB⟩ := RnM.blk HR3.out; exact hB.cell rfl)
    clear f1 r5 HR2 HF2 HX2 HST2 HOW HB3 HB HB1
    refine wp_region_held_drew (S := fun W => Bel W3 W) (by kernel_rfl) ((Bel.rfl_ W3).dr) (fun hS => ?_)
    refine rt_take (i := 0) (some 60) (.pointer (some ⟨E.r, 0, none⟩)) rfl rfl (by kernel_rfl) (by kernel_rfl) (by kernel_rfl) (fun _ _ _ h => h) (by kernel_rfl) hS (fun W _ => by kernel_rfl) ?_
    refine rt_take (i := 1) (some 61) (.pointer (some ⟨E.r, 0, none⟩)) rfl rfl (by kernel_rfl) (by kernel_rfl) (by kernel_rfl) (fun _ _ _ h => h) (by kernel_rfl) hS (fun W _ => by kernel_rfl) ?_
    refine rt_take (i := 2) (some 62) (.pointer (some ⟨E.r, 4, none⟩)) rfl rfl (by kernel_rfl) (by kernel_rfl) (by kernel_rfl) (fun _ _ _ h => h) (by kernel_rfl) hS (fun W _ => by kernel_rfl) ?_
    refine rt_take (i := 3) (some 63) (.int .i64 σ.made) rfl rfl (by kernel_rfl) (by kernel_rfl) (by kernel_rfl) (fun _ _ _ h => h) (by kernel_rfl) hS (fun W hb => rl_int rfl (by kernel_rfl) (hb.cell R4.out)) ?_
    refine rt_take (i := 4) (some 64) (.pointer (some ⟨K, 1, none⟩)) rfl rfl (by kernel_rfl) (by kernel_rfl) (by kernel_rfl) (fun _ _ _ h => h) (by kernel_rfl) hS (fun W _ => by kernel_rfl) ?_
    refine rt_take (i := 5) (some 65) (vz2) rfl rfl (by kernel_rfl) (by kernel_rfl) (by kernel_rfl) (fun _ _ _ h => h) (by kernel_rfl) hS (fun W hb => rl_is rfl (by kernel_rfl) ((HKF.out.keep hb).cell HF1c.out)) ?_
    refine rt_call (i := 6) (some 66) (by kernel_rfl) rfl rfl (by kernel_rfl) 86 #[vz2] (by kernel_rfl) (cells_any G.sizes HFN.out.sz (by have := HFN.out.par3; have := HFN.out.var6; omega) vz2 W3.drew (HVZ.out.keep (HB03.out.tr hS))) ?_
    rintro y W9 ⟨u0, rfl, hvo, hb9⟩
    obtain ⟨A0, c0, rfl⟩ := hvo.lit
    have HVO := Lib.hid hvo
    have HB9 := Lib.hid hb9
    refine ⟨_, rfl, hS.tr hb9, fun hS => ?_⟩
    clear hvo hb9
    refine rt_take (i := 7) (some 67) (.agg #[.int .i64 σ.made, .int .i64 (-1), .slice A0 (zeroV G.sizes).length c0]) rfl rfl (by kernel_rfl) (by kernel_rfl) (by kernel_rfl) (fun _ _ _ h => h) (by kernel_rfl) hS (fun W _ => by kernel_rfl) ?_
    refine rt_one (i := 8) (some 68) (by kernel_rfl) rfl rfl (by kernel_rfl) (.pointer (some ⟨W9.heap.size, 0, none⟩)) (W9.alloc (.cells #[.int .i64 σ.made, .int .i64 (-1), .slice A0 (zeroV G.sizes).length c0] PRT)) (by kernel_rfl) (hS.al _) (fun hS => ?_)
    refine rt_take (i := 9) (some 13) (.pointer (some ⟨W9.heap.size, 0, none⟩)) rfl rfl (by kernel_rfl) (by kernel_rfl) (by kernel_rfl) (fun _ _ _ h => h) (by kernel_rfl) hS (fun W _ => by kernel_rfl) ?_
    refine wpAnyH_done (by kernel_rfl) ?_ _
    try simp only [Act.put, List.setIfInBounds_toArray, List.set_cons_zero, List.set_cons_succ]
    have HB4 : Hid (Bel W3.drew (W9.alloc (.cells #[.int .i64 σ.made, .int .i64 (-1), .slice A0 (zeroV G.sizes).length c0] PRT))) := Lib.hid (HB9.out.al _)
    have HG4 : Hid (FrM (W9.alloc (.cells #[.int .i64 σ.made, .int .i64 (-1), .slice A0 (zeroV G.sizes).length c0] PRT)) W3.drew.heap.size W9.heap.size σ.made (-1) (zeroV G.sizes)) := Lib.hid ⟨HB9.out.size, _, Blk.new W9 PRT _, HVO.out.keep ((Bel.rfl_ W9).al _)⟩
    clear hS HVO HB9
    have HRc := Lib.hid (RnM.keep HR3.out ((Bel.rfl_ W3).dr))
    have HFc := Lib.hid (HF3.out.keep ((Bel.rfl_ W3).dr))
    have HXc := Lib.hid (HX3.out.keep ((Bel.rfl_ W3).dr))
    have HOc := Lib.hid (((Bel.rfl_ W3).dr).own HW3.out)
    have HKc := Lib.hid (HKF.out.keep ((Bel.rfl_ W3).dr))
    have HSTc := Lib.hid (HST3.out.tr (Stays.bel ((Bel.rfl_ W3).dr) HB03.out.size))
    clear HR3 HF3 HX3 HW3 HKF HST3 R4
    generalize W9.alloc (.cells #[.int .i64 σ.made, .int .i64 (-1), .slice A0 (zeroV G.sizes).length c0] PRT) = W4 at *
    generalize W9.heap.size = GB at *
    generalize W3.drew = WC at *
    have HBc := Lib.hid (RnM.bel HRc.out)
    have HR4 := Lib.hid (RnM.keep HRc.out HB4.out)
    have HS4 : Hid (Stays E.w0.heap.size WC.heap.size WC W4) := Lib.hid (Stays.bel HB4.out HBc.out.size)
    have HLc : Hid (p.lo ≤ WC.heap.size) := Lib.hid (Nat.le_trans HLO.out (HQ.out ▸ HSTc.out.k.size))
    have hm0 : 0 ≤ σ.made := by have := HNX.out.good.m0; omega
    have hm1 : σ.made ≤ 20000 := by have := HNX.out.good.m1; have := (HNX.out.good.outs HFU.out).2; omega
    have h5r : p.rest.length ≤ 5 := HNX.out.good.five
    obtain ⟨vp4, vi4, vf4, ve4, hb4⟩ := RnM.blk HR4.out
    have r4 : W4.cell? ⟨E.r, 4, none⟩ = some (.int .i64 σ.made) := hb4.cell rfl
    have f4 := hb4.frozen 4
    have HBK4 := Lib.hid hb4
    clear hb4
    go_upto_region 14 with fail
    go_upto_region 15 with fail
    have HR5 := Lib.hid (RnM.made_ HR4.out (σ.made + 1) 0).1
    have HS5 : Hid (Stays E.w0.heap.size WC.heap.size WC (W4.setCell ⟨E.r, 4, none⟩ (.int .i64 (σ.made + 1)))) := Lib.hid (HS4.out.tr (Stays.ofAny fun hi => (RnM.made_ HR4.out (σ.made + 1) hi).2))
    have HG5 : Hid (FrM (W4.setCell ⟨E.r, 4, none⟩ (.int .i64 (σ.made + 1))) WC.heap.size GB σ.made (-1) (zeroV G.sizes)) := Lib.hid (HG4.out.set_r HBK4.out 4 _)
    clear r4 f4 HR4 HS4 HG4 HBK4
    generalize W4.setCell ⟨E.r, 4, none⟩ (.int .i64 (σ.made + 1)) = W5 at *
    obtain ⟨vp5, vi5, vf5, ve5, hb5⟩ := RnM.blk HR5.out
    have r5 : W5.cell? ⟨E.r, 5, none⟩ = some (.int .i64 (p.rest.length + 1)) := hb5.cell rfl
    have f5 := hb5.frozen 5
    have HBK5 := Lib.hid hb5
    clear hb5
    go_upto_region 16 with fail
    have HR6 := Lib.hid (RnM.deep_ HR5.out (p.rest.length + 1 + 1) 0).1
    have HS6 : Hid (Stays E.w0.heap.size WC.heap.size WC (W5.setCell ⟨E.r, 5, none⟩ (.int .i64 (p.rest.length + 1 + 1)))) := Lib.hid (HS5.out.tr (Stays.ofAny fun hi => (RnM.deep_ HR5.out (p.rest.length + 1 + 1) hi).2))
    have HG6 : Hid (FrM (W5.setCell ⟨E.r, 5, none⟩ (.int .i64 (p.rest.length + 1 + 1))) WC.heap.size GB σ.made (-1) (zeroV G.sizes)) := Lib.hid (HG5.out.set_r HBK5.out 5 _)
    clear r5 f5 HR5 HS5 HG5 HBK5
    generalize W5.setCell ⟨E.r, 5, none⟩ (.int .i64 (p.rest.length + 1 + 1)) = W6 at *
    have HXQ : Hid (Q < WC.heap.size) := Lib.hid HXc.out.lt
    have HRd := Lib.hid (RnM.keep HR6.out ((Bel.rfl_ W6).dr))
    have HGd := Lib.hid (HG6.out.keep ((Bel.rfl_ W6).dr))
    have HSd := Lib.hid (HS6.out.tr (Stays.bel ((Bel.rfl_ W6).dr) (RnM.bel HR6.out).size))
    have hS0 : W6.drew.cell? ⟨p.fb, 0, none⟩ = some (.int .i64 p.num) ∧ W6.drew.cell? ⟨p.fb, 1, none⟩ = some (.int .i64 a) ∧ W6.drew.cell? ⟨Q, 2, none⟩ = some (.int .i64 x.fn) ∧ W6.drew.cell? ⟨GB, 0, none⟩ = some (.int .i64 σ.made) := ⟨(HFc.out.kept HSd.out.k (Nat.le_refl _)).c01.1, (HFc.out.kept HSd.out.k (Nat.le_refl _)).c01.2, (HXc.out.kept HSd.out.j HXQ.out (by decide)).cell HC2.out, HGd.out.c01.1⟩
    refine wp_region_held_drew (S := fun W => W.cell? ⟨p.fb, 0, none⟩ = some (.int .i64 p.num) ∧ W.cell? ⟨p.fb, 1, none⟩ = some (.int .i64 a) ∧ W.cell? ⟨Q, 2, none⟩ = some (.int .i64 x.fn) ∧ W.cell? ⟨GB, 0, none⟩ = some (.int .i64 σ.made)) (by kernel_rfl) hS0 (fun hS => ?_)
    refine rt_take (i := 0) (some 83) (.pointer (some ⟨E.r, 0, none⟩)) rfl rfl (by kernel_rfl) (by kernel_rfl) (by kernel_rfl) (fun _ _ _ h => h) (by kernel_rfl) hS (fun W _ => by kernel_rfl) ?_
    refine rt_take (i := 1) (some 84) (.pointer (some ⟨p.fb, 0, none⟩)) rfl rfl (by kernel_rfl) (by kernel_rfl) (by kernel_rfl) (fun _ _ _ h => h) (by kernel_rfl) hS (fun W _ => by kernel_rfl) ?_
    refine rt_take (i := 2) (some 85) (.pointer (some ⟨p.fb, 0, none⟩)) rfl rfl (by kernel_rfl) (by kernel_rfl) (by kernel_rfl) (fun _ _ _ h => h) (by kernel_rfl) hS (fun W _ => by kernel_rfl) ?_
    refine rt_take (i := 3) (some 86) (.pointer (some ⟨p.fb, 0, none⟩)) rfl rfl (by kernel_rfl) (by kernel_rfl) (by kernel_rfl) (fun _ _ _ h => h) (by kernel_rfl) hS (fun W _ => by kernel_rfl) ?_
    refine rt_take (i := 4) (some 87) (.int .i64 p.num) rfl rfl (by kernel_rfl) (by kernel_rfl) (by kernel_rfl) (fun _ _ _ h => h) (by kernel_rfl) hS (fun W hb => rl_int rfl (by kernel_rfl) hb.1) ?_
    refine rt_take (i := 5) (some 88) (.pointer (some ⟨p.fb, 0, none⟩)) rfl rfl (by kernel_rfl) (by kernel_rfl) (by kernel_rfl) (fun _ _ _ h => h) (by kernel_rfl) hS (fun W _ => by kernel_rfl) ?_
    refine rt_take (i := 6) (some 89) (.pointer (some ⟨p.fb, 0, none⟩)) rfl rfl (by kernel_rfl) (by kernel_rfl) (by kernel_rfl) (fun _ _ _ h => h) (by kernel_rfl) hS (fun W _ => by kernel_rfl) ?_
    refine rt_take (i := 7) (some 90) (.pointer (some ⟨p.fb, 1, none⟩)) rfl rfl (by kernel_rfl) (by kernel_rfl) (by kernel_rfl) (fun _ _ _ h => h) (by kernel_rfl) hS (fun W _ => by kernel_rfl) ?_
    refine rt_take (i := 8) (some 91) (.int .i64 a) rfl rfl (by kernel_rfl) (by kernel_rfl) (by kernel_rfl) (fun _ _ _ h => h) (by kernel_rfl) hS (fun W hb => rl_int rfl (by kernel_rfl) hb.2.1) ?_
    refine rt_take (i := 9) (some 92) (.pointer (some ⟨Q, 2, none⟩)) rfl rfl (by kernel_rfl) (by kernel_rfl) (by kernel_rfl) (fun _ _ _ h => h) (by kernel_rfl) hS (fun W _ => by kernel_rfl) ?_
    refine rt_take (i := 10) (some 93) (.int .i64 x.fn) rfl rfl (by kernel_rfl) (by kernel_rfl) (by kernel_rfl) (fun _ _ _ h => h) (by kernel_rfl) hS (fun W hb => rl_int rfl (by kernel_rfl) hb.2.2.1) ?_
    refine rt_take (i := 11) (some 94) (.pointer (some ⟨GB, 0, none⟩)) rfl rfl (by kernel_rfl) (by kernel_rfl) (by kernel_rfl) (fun _ _ _ h => h) (by kernel_rfl) hS (fun W _ => by kernel_rfl) ?_
    refine rt_take (i := 12) (some 95) (.pointer (some ⟨GB, 0, none⟩)) rfl rfl (by kernel_rfl) (by kernel_rfl) (by kernel_rfl) (fun _ _ _ h => h) (by kernel_rfl) hS (fun W _ => by kernel_rfl) ?_
    refine rt_take (i := 13) (some 96) (.pointer (some ⟨GB, 0, none⟩)) rfl rfl (by kernel_rfl) (by kernel_rfl) (by kernel_rfl) (fun _ _ _ h => h) (by kernel_rfl) hS (fun W _ => by kernel_rfl) ?_
    refine rt_take (i := 14) (some 97) (.int .i64 σ.made) rfl rfl (by kernel_rfl) (by kernel_rfl) (by kernel_rfl) (fun _ _ _ h => h) (by kernel_rfl) hS (fun W hb => rl_int rfl (by kernel_rfl) hb.2.2.2) ?_
    refine rt_take (i := 15) (some 98) (.agg #[.int .i64 5, .int .i64 p.num, .int .i64 a, .int .i64 x.fn, .int .i64 0, .int .i64 σ.made]) rfl rfl (by kernel_rfl) (by kernel_rfl) (by kernel_rfl) (fun _ _ _ h => h) (by kernel_rfl) hS (fun W _ => by kernel_rfl) ?_
    refine rt_call (i := 16) (some 99) (by kernel_rfl) rfl rfl (by kernel_rfl) 148 #[.pointer (some ⟨E.r, 0, none⟩), .agg #[.int .i64 5, .int .i64 p.num, .int .i64 a, .int .i64 x.fn, .int .i64 0, .int .i64 σ.made]] (by kernel_rfl) (tell_any E.w0 E.ps E.fuel E.fs E.L E.r _ _ _ _ _ 5 p.num a x.fn 0 σ.made _ HRd.out (by have := HOL.out; omega)) ?_
    rintro y W7 ⟨rfl, hr7, hk7⟩
    have hs7 := HSd.out.tr (Stays.told hk7 HSd.out.k.size)
    have hg7 := HGd.out.kept hk7 (Nat.le_refl _)
    refine ⟨_, rfl, ⟨(HFc.out.kept hs7.k (Nat.le_refl _)).c01.1, (HFc.out.kept hs7.k (Nat.le_refl _)).c01.2, (HXc.out.kept hs7.j HXQ.out (by decide)).cell HC2.out, hg7.c01.1⟩, fun hS => ?_⟩
    refine wpAnyH_done (by kernel_rfl) ?_ _
    try simp only [Act.put, List.setIfInBounds_toArray, List.set_cons_zero, List.set_cons_succ]
    have HR7 : Hid (RnM E.w0 E.ps E.fuel E.fs E.L E.r W7 σ.inp (σ.steps + 1) (σ.made + 1) (p.rest.length + 1 + 1) ((σ.on F p.rest a F.tasks).out ++ [⟨5, p.num, a, x.fn, 0, σ.made⟩] ++ wEvs σ.made a (vals.take 0) 0)) := Lib.hid (by rw [List.take_zero, wEvs, List.append_nil]; exact hr7)
    have HG7 : Hid (FrM W7 WC.heap.size GB σ.made (-1) (setAll (zeroV G.sizes) (vals.take 0) 0)) := Lib.hid hg7
    have HS7 := Lib.hid hs7
    have HLL2 : Hid (E.L ≤ WC.heap.size) := Lib.hid (Nat.le_trans HLL.out HLc.out)
    have HNM : Hid (∀ n ∈ vals, Num n) := Lib.hid (by obtain ⟨cc, -, hc⟩ := HNX.out.is; have := argsV_num HNX.out.fits hc.all; rw [HAV.out] at this; exact this)
    have HLJ := Lib.hid (fun j (hj : j < vals.length) => args_fit HFN.out HNM.out (by rw [HVL.out]; exact HAG.out) hj)
    clear hS hS0 hr7 hk7 hs7 hg7 HR6 HG6 HS6 HRd HGd HSd hj hlt hdd
    go_wp2
    go_loopw [102] (fun i wr => ∃ j : Nat, i = .int .i64 j ∧ j ≤ x.args.length ∧ Hid (RnM E.w0 E.ps E.fuel E.fs E.L E.r wr σ.inp (σ.steps + 1) (σ.made + 1) (p.rest.length + 1 + 1) ((σ.on F p.rest a F.tasks).out ++ [⟨5, p.num, a, x.fn, 0, σ.made⟩] ++ wEvs σ.made a (vals.take j) 0)) ∧ Hid (FrM wr WC.heap.size GB σ.made (-1) (setAll (zeroV G.sizes) (vals.take j) 0)) ∧ Hid (Stays E.w0.heap.size WC.heap.size WC wr)) (fun i _ => x.args.length - (intOf i).toNat)
    case atStart => exact ⟨0, rfl, Nat.zero_le _, HR7, HG7, HS7⟩
    case round =>
      obtain ⟨j, rfl, hj, HR, HG, HST⟩ := hrel
      obtain ⟨WV, hWV⟩ : ∃ W, W = wr := ⟨_, rfl⟩
      subst hWV
      clear HR7 HG7 HS7
      by_cases hlt : j < x.args.length
      · have hdd : decide ((j : Int) < x.args.length) = true := decide_eq_true (by omega)
        obtain ⟨n, hn⟩ : ∃ n, vals[j]? = some n := ⟨_, List.getElem?_eq_getElem (by rw [HVL.out]; exact hlt)⟩
        obtain ⟨bl, cl2, he, hbo, cur, hbl, hcur⟩ := own_int HOc.out HVL.out.symm hn
        injection he with he1 _ he2
        subst he1 he2
        have l1 := (hbl.kept HST.out.k hbl.lt (by decide)).cell hcur
        have f1 := (HFc.out.kept HST.out.k (Nat.le_refl _)).c01.2
        obtain ⟨lj, hlj, hlp⟩ := HLJ.out j (by rw [HVL.out]; exact hlt)
        have HWR := Lib.hid (write_any (v := (j : Int)) (i := 0) (l := lj) HR.out (by rw [List.length_append, List.length_append, wEvs_len, List.length_take]; have := HOL.out; have := HVL.out; simp only [List.length_singleton]; omega) HG.out HLL2.out (Int.natCast_nonneg j) (by rw [Int.toNat_natCast]; exact hlj) (Int.le_refl 0) (by omega) a n)
        have HTE := Lib.hid (wEvs_snoc σ.made a (vals.take j) 0 n)
        have HTA := Lib.hid (setAll_snoc (vals.take j) (zeroV G.sizes) 0 n)
        have HTS := Lib.hid (take_snoc hn)
        have HTL : Hid ((vals.take j).length = j) := Lib.hid (by rw [List.length_take]; have := HVL.out; omega)
        have i3 : (0 : Int) ≤ j := by omega
        have i4 : (j : Int) < x.args.length := by omega
        clear hn hbl hcur hbo hlj hlp HR HG HLJ
        go_wp2_with fail
        refine HWR.out.mono ?_
        rintro y W8 ⟨rfl, hr8, hg8, hs8⟩
        have HR8 : Hid (RnM E.w0 E.ps E.fuel E.fs E.L E.r W8 σ.inp (σ.steps + 1) (σ.made + 1) (p.rest.length + 1 + 1) ((σ.on F p.rest a F.tasks).out ++ [⟨5, p.num, a, x.fn, 0, σ.made⟩] ++ wEvs σ.made a (vals.take (j + 1)) 0)) := Lib.hid (by rw [HTS.out, HTE.out, HTL.out, Nat.zero_add, ← List.append_assoc]; exact hr8)
        have HG8 : Hid (FrM W8 WC.heap.size GB σ.made (-1) (setAll (zeroV G.sizes) (vals.take (j + 1)) 0)) := Lib.hid (by rw [HTS.out, HTA.out, HTL.out, Nat.zero_add]; exact hg8)
        have HS8 := Lib.hid (HST.out.tr hs8)
        clear hr8 hg8 hs8 l1 f1
        go_wp2
        go_roundw
        case rel => exact ⟨j + 1, by go_num, by omega, HR8, HG8, HS8⟩
        case measure => simp [intOf]; omega
      have hdd : decide ((j : Int) < x.args.length) = false := decide_eq_false (by omega)
      have hjl : j = x.args.length := by omega
      subst hjl
      have HTL : Hid (vals.take x.args.length = vals) := Lib.hid (by rw [← HVL.out, List.take_length])
      rw [HTL.out] at HR HG
      clear HLJ hlt hj
      go_upto_region 22 with fail
      have HGN := Lib.hid (HNX.out.good.next HPR.out HD.out (F' := ⟨σ.made, x.fn, -1, setAll (zeroV (E.ps.getD x.fn.toNat noF).sizes) vals 0, pushT (E.ps.getD x.fn.toNat noF).cmds (firstC E.ps x.fn.toNat) ++ [.back]⟩) (rest' := { F with at_ := a } :: p.rest) rfl HNX.out.good.on)
      have HLE : Hid (((({ F with at_ := a } : Fr) :: p.rest).length : Int) + 1 = p.rest.length + 1 + 1) := Lib.hid (by rw [List.length_cons]; omega)
      have HA2 : Hid (∀ W, Bel WV W → AtS E ⟨WC.heap.size, GB, σ.made, x.fn, { F with at_ := a } :: p.rest⟩ (pushT G.cmds (firstC E.ps x.fn.toNat) ++ [.back]) (Mc.inn E.ps σ F p.rest x a vals) W) := Lib.hid (fun W hb => by
        refine ⟨_, HGN.out.1, rfl, rfl, by dsimp only; rw [HGG.out], by dsimp only; rw [HGG.out]; exact HG.out.keep hb, ?_⟩
        have h1 := RnM.keep HR.out hb
        rw [← HNX.out.num, ← HLE.out] at h1
        exact h1)
      obtain ⟨h6, hfo, hfl2⟩ := RnM.first HR.out
      obtain ⟨bi, ci, hfv, hbo, cur, hbi, hcur⟩ := own_int hfo rfl (HFS.out.1 x.fn.toNat (by omega))
      have HBI := Lib.hid (hfl2 bi hbo)
      have HCUR := Lib.hid hcur
      have HFV := Lib.hid hfv
      have i5 : x.fn < E.fs.l.length := by rw [HFS.out.2]; omega
      have HBId := Lib.hid (hbi.keep ((Bel.rfl_ WV).dr))
      have HXV := Lib.hid ((HXc.out.kept HST.out.j HXQ.out (by decide)).keep ((Bel.rfl_ WV).dr))
      have HKV := Lib.hid ((HKc.out.kept HST.out.j HKc.out.lt (by decide)).keep ((Bel.rfl_ WV).dr))
      have HSV := Lib.hid (HST.out.tr (Stays.bel ((Bel.rfl_ WV).dr) (RnM.bel HR.out).size))
      have hS0 : WV.drew.cell? ⟨Q, 2, none⟩ = some (.int .i64 x.fn) ∧ WV.drew.cell? ⟨K, 2, none⟩ = some vc2 ∧ WV.drew.cell? ⟨E.r, 6, none⟩ = some (.slice (some ⟨bi, 0, none⟩) E.fs.l.length ci) ∧ WV.drew.cell? ⟨bi, x.fn.toNat, none⟩ = some (.int .i64 (firstC E.ps x.fn.toNat)) := ⟨HXV.out.cell HC2.out, HKV.out.cell HF2c.out, by rw [← hfv]; exact h6, HBId.out.cell hcur⟩
      have HALL2 := Lib.hid (HAL.out ⟨WC.heap.size, GB, σ.made, x.fn, { F with at_ := a } :: p.rest⟩ G.cmds (firstC E.ps x.fn.toNat) [.back] (Mc.inn E.ps σ F p.rest x a vals) WV.drew vc2 (HA2.out _ ((Bel.rfl_ WV).dr)) HLL2.out HVC.out HN.out HCM.out.1 (by have := HCM.out.2.1; have := HCM.out.1; omega))
      clear h6 hfo hfl2 hfv hbo hbi hcur HA2
      refine wp_region_held_drew (S := fun W => W.cell? ⟨Q, 2, none⟩ = some (.int .i64 x.fn) ∧ W.cell? ⟨K, 2, none⟩ = some vc2 ∧ W.cell? ⟨E.r, 6, none⟩ = some (.slice (some ⟨bi, 0, none⟩) E.fs.l.length ci) ∧ W.cell? ⟨bi, x.fn.toNat, none⟩ = some (.int .i64 (firstC E.ps x.fn.toNat))) (by kernel_rfl) hS0 (fun hS => ?_)
      refine rt_take (i := 0) (some 117) (.pointer (some ⟨E.r, 0, none⟩)) rfl rfl (by kernel_rfl) (by kernel_rfl) (by kernel_rfl) (fun _ _ _ h => h) (by kernel_rfl) hS (fun W _ => by kernel_rfl) ?_
      refine rt_take (i := 1) (some 118) (.pointer (some ⟨GB, 0, none⟩)) rfl rfl (by kernel_rfl) (by kernel_rfl) (by kernel_rfl) (fun _ _ _ h => h) (by kernel_rfl) hS (fun W _ => by kernel_rfl) ?_
      refine rt_take (i := 2) (some 119) (.pointer (some ⟨K, 2, none⟩)) rfl rfl (by kernel_rfl) (by kernel_rfl) (by kernel_rfl) (fun _ _ _ h => h) (by kernel_rfl) hS (fun W _ => by kernel_rfl) ?_
      refine rt_take (i := 3) (some 120) (vc2) rfl rfl (by kernel_rfl) (by kernel_rfl) (by kernel_rfl) (fun _ _ _ h => h) (by kernel_rfl) hS (fun W hb => rl_cs rfl (by kernel_rfl) hb.2.1) ?_
      refine rt_take (i := 4) (some 121) (.pointer (some ⟨E.r, 0, none⟩)) rfl rfl (by kernel_rfl) (by kernel_rfl) (by kernel_rfl) (fun _ _ _ h => h) (by kernel_rfl) hS (fun W _ => by kernel_rfl) ?_
      refine rt_take (i := 5) (some 122) (.pointer (some ⟨E.r, 0, none⟩)) rfl rfl (by kernel_rfl) (by kernel_rfl) (by kernel_rfl) (fun _ _ _ h => h) (by kernel_rfl) hS (fun W _ => by kernel_rfl) ?_
      refine rt_take (i := 6) (some 123) (.pointer (some ⟨E.r, 6, none⟩)) rfl rfl (by kernel_rfl) (by kernel_rfl) (by kernel_rfl) (fun _ _ _ h => h) (by kernel_rfl) hS (fun W _ => by kernel_rfl) ?_
      refine rt_take (i := 7) (some 124) (.slice (some ⟨bi, 0, none⟩) E.fs.l.length ci) rfl rfl (by kernel_rfl) (by kernel_rfl) (by kernel_rfl) (fun _ _ _ h => h) (by kernel_rfl) hS (fun W hb => rl_is rfl (by kernel_rfl) hb.2.2.1) ?_
      refine rt_take (i := 8) (some 125) (.pointer (some ⟨Q, 2, none⟩)) rfl rfl (by kernel_rfl) (by kernel_rfl) (by kernel_rfl) (fun _ _ _ h => h) (by kernel_rfl) hS (fun W _ => by kernel_rfl) ?_
      refine rt_take (i := 9) (some 126) (.int .i64 x.fn) rfl rfl (by kernel_rfl) (by kernel_rfl) (by kernel_rfl) (fun _ _ _ h => h) (by kernel_rfl) hS (fun W hb => rl_int rfl (by kernel_rfl) hb.1) ?_
      refine rt_take (i := 10) (some 127) (.pointer (some ⟨bi, x.fn.toNat, none⟩)) rfl rfl (by kernel_rfl) (by kernel_rfl) (by kernel_rfl) (fun _ _ _ h => h) (by kernel_rfl) hS (fun W _ => by go_simp) ?_
      refine rt_take (i := 11) (some 128) (.int .i64 (firstC E.ps x.fn.toNat)) rfl rfl (by kernel_rfl) (by kernel_rfl) (by kernel_rfl) (fun _ _ _ h => h) (by kernel_rfl) hS (fun W hb => rl_int rfl (by kernel_rfl) hb.2.2.2) ?_
      refine rt_call (i := 12) (some 129) (by kernel_rfl) rfl rfl (by kernel_rfl) 114 #[.pointer (some ⟨E.r, 0, none⟩), .pointer (some ⟨GB, 0, none⟩), vc2, .int .i64 (firstC E.ps x.fn.toNat)] (by kernel_rfl) (HALL2.out) ?_
      rintro y W9 ⟨b1, rfl, hres⟩
      have hkeep : Stays E.w0.heap.size WC.heap.size WV.drew W9 ∧ W9.cell? ⟨E.r, 6, none⟩ = some (.slice (some ⟨bi, 0, none⟩) E.fs.l.length ci) := by
        obtain ⟨σ3, -, h1, h2, h3⟩ := hres
        refine ⟨h1, ?_⟩
        rw [← HFV.out]
        cases b1 with
        | true => obtain ⟨F3, -, -, -, -, -, h4⟩ := h2 rfl; exact (RnM.first h4).1
        | false => obtain ⟨-, d, h4⟩ := h3 rfl; exact (RnM.first h4).1
      refine ⟨_, rfl, ⟨(HXV.out.kept hkeep.1.j HXV.out.lt (by decide)).cell HC2.out, (HKV.out.kept hkeep.1.j HKV.out.lt (by decide)).cell HF2c.out, hkeep.2, (HBId.out.kept hkeep.1.k (Nat.lt_of_lt_of_le HBI.out HLL2.out) (by decide)).cell HCUR.out⟩, fun hS => ?_⟩
      refine rt_take (i := 13) (some 130) (.bool (!b1)) rfl rfl (by kernel_rfl) (by kernel_rfl) (by kernel_rfl) (fun _ _ _ h => h) (by kernel_rfl) hS (fun W _ => by kernel_rfl) ?_
      refine wpAnyH_done (by kernel_rfl) ?_ _
      try simp only [Act.put, List.setIfInBounds_toArray, List.set_cons_zero, List.set_cons_succ]
      have HS9 := Lib.hid (HSV.out.tr hkeep.1)
      have HX9 := Lib.hid (HXV.out.kept hkeep.1.j HXV.out.lt (by decide))
      have HK9 := Lib.hid (HKV.out.kept hkeep.1.j HKV.out.lt (by decide))
      obtain ⟨σ3, hr3, -, ht3, hf3⟩ := hres
      have HRR := Lib.hid (HGN.out.2.tr hr3)
      clear hS hS0 hkeep hr3 HR HG HST HALL2 HXV HKV HSV HBId HBI HCUR HFV
      cases b1 with
      | false =>
        obtain ⟨ho, d, hd⟩ := hf3 rfl
        have HO := Lib.hid ho
        have HDD := Lib.hid hd
        clear ho hd hf3 ht3
        go_wp2
        go_ret
        exact ⟨false, rfl, Res.over HRR.out (HSTc.out.tr (HS9.out.mono HLc.out)) HO.out HDD.out⟩
      | true =>
        obtain ⟨F3, hgd3, hn3, hf3n, ht3k, hfr3, hru3⟩ := ht3 rfl
        have HG3 := Lib.hid hgd3
        have HN3 := Lib.hid hn3
        have HFN3 := Lib.hid hf3n
        have HT3 := Lib.hid ht3k
        have HF3 := Lib.hid hfr3
        have HU3 := Lib.hid hru3
        have HFIT : Hid (Fits G.sizes F3.vars) := Lib.hid (by
          obtain ⟨g2, -, hg2, hfit2, -⟩ := hgd3.ok
          rw [hf3n] at hg2
          rw [HGE.out] at hg2
          injection hg2 with hg2
          subst hg2
          exact hfit2)
        have k3 := HK9.out.cell HF3c.out
        have k4 := HK9.out.cell HF4c.out
        have k5 := HK9.out.cell HF5c.out
        have HVAL := Lib.hid (value_is (z := G.sizes) (e := G.result) (val := .agg #[.int .i64 G.result.kind, .int .i64 G.result.n, vr2]) hru3 (by have := (hgd3.outs HFU.out).1; omega) hfr3 (by unfold Mc.num; rw [hgd3.fr]; exact hn3) HFIT.out (PE.err_ok (HFN.out.res (by omega))) ⟨vr2, rfl, HVR.out.keep (RnM.bel hru3)⟩)
        clear hf3 ht3 hgd3 hn3 hf3n ht3k hfr3 hru3
        go_wp2_with fail
        refine HVAL.out.mono ?_
        rintro y W10 (⟨hv, rfl, hb⟩ | ⟨hv, rfl, hr10, hs10⟩)
        rotate_left
        · have hd3 : σ3.do_ E.ps E.fuel = σ3.end_ F3.at_ (G.result.val F3.vars).2 := by
            have hv2 : ((E.ps.getD F3.fn.toNat noF).result.val F3.vars).2 ≠ 0 := by rw [HFN3.out, HGG.out]; exact hv
            rw [Mc.back_fail HG3.out.fr HT3.out HNX.out.tk hv2, HFN3.out, HGG.out]
          have HRES : Hid (Res E p T σ w false W10) := Lib.hid (Res.over (HRR.out.tr (Reach.one HG3.out.on hd3)) (HSTc.out.tr ((HS9.out.tr hs10).mono HLc.out)) rfl hr10)
          clear hv hr10 hs10 hd3 HVAL k3 k4 k5
          go_wp2
          go_ret
          exact ⟨false, rfl, HRES.out⟩
        have HD3 : Hid (σ3.do_ E.ps E.fuel = { σ3 with frames := { F with at_ := a, tasks := T, vars := setC F.vars x.var 0 (G.result.val F3.vars).1 } :: p.rest, out := σ3.out ++ [⟨6, σ.made, a, 0, 0, (G.result.val F3.vars).1⟩] ++ [⟨2, p.num, a, x.var, 0, (G.result.val F3.vars).1⟩] }) := Lib.hid (by
          have hv2 : ((E.ps.getD F3.fn.toNat noF).result.val F3.vars).2 = 0 := by rw [HFN3.out, HGG.out]; exact hv
          rw [Mc.back_on HG3.out.fr HT3.out HNX.out.tk hv2, HFN3.out, HGG.out, HN3.out, ← HNX.out.num])
        generalize hvr : (G.result.val F3.vars).1 = rv at *
        have HRa : Hid (RnM E.w0 E.ps E.fuel E.fs E.L E.r W10 σ3.inp σ3.steps σ3.made (p.rest.length + 1 + 1) σ3.out) := Lib.hid (by have h1 := RnM.keep HU3.out hb; rw [HLE.out] at h1; exact h1)
        have HSa := Lib.hid (HS9.out.tr (Stays.bel hb (RnM.bel HU3.out).size))
        have HNUM : Hid (W10.cell? ⟨GB, 0, none⟩ = some (.int .i64 σ.made)) := Lib.hid (hb.cell HF3.out.c01.1)
        have HNB : Hid (∃ v2, Blk W10 GB PRT #[.int .i64 σ.made, .int .i64 F3.at_, v2]) := Lib.hid (by obtain ⟨-, v2, hB, -⟩ := HF3.out; exact ⟨v2, hB.keep hb⟩)
        clear hv hb HVAL k3 k4 k5 hvr HU3 HS9 HX9 HK9 HF3
        obtain ⟨vp6, vi6, vf6, ve6, hb6⟩ := RnM.blk HRa.out
        have r6 : W10.cell? ⟨E.r, 5, none⟩ = some (.int .i64 (p.rest.length + 1 + 1)) := hb6.cell rfl
        have f6 := hb6.frozen 5
        have HBK6 := Lib.hid hb6
        clear hb6
        go_upto_region 28 with fail
        have HRb := Lib.hid (RnM.deep_ HRa.out (p.rest.length + 1) 0).1
        have HSb : Hid (Stays E.w0.heap.size WC.heap.size WC (W10.setCell ⟨E.r, 5, none⟩ (.int .i64 (p.rest.length + 1)))) := Lib.hid (HSa.out.tr (Stays.ofAny fun hi => (RnM.deep_ HRa.out (p.rest.length + 1) hi).2))
        have HNBb : Hid (∃ v2, Blk (W10.setCell ⟨E.r, 5, none⟩ (.int .i64 (p.rest.length + 1))) GB PRT #[.int .i64 σ.made, .int .i64 F3.at_, v2]) := Lib.hid (by obtain ⟨v2, hB⟩ := HNB.out; exact ⟨v2, hB.aside HBK6.out (by decide) 5 _⟩)
        clear r6 f6 HRa HSa HBK6 HNB HNUM
        generalize W10.setCell ⟨E.r, 5, none⟩ (.int .i64 (p.rest.length + 1)) = W11 at *
        have HRc2 := Lib.hid (RnM.keep HRb.out ((Bel.rfl_ W11).dr))
        have HSc2 := Lib.hid (HSb.out.tr (Stays.bel ((Bel.rfl_ W11).dr) (RnM.bel HRb.out).size))
        obtain ⟨v2, hnb⟩ := HNBb.out
        have HNBc := Lib.hid (hnb.keep ((Bel.rfl_ W11).dr))
        have hS0 : W11.drew.cell? ⟨GB, 0, none⟩ = some (.int .i64 σ.made) ∧ W11.drew.cell? ⟨p.fb, 1, none⟩ = some (.int .i64 a) := ⟨HNBc.out.cell rfl, (HFc.out.kept HSc2.out.k (Nat.le_refl _)).c01.2⟩
        have HO3 := Lib.hid (HG3.out.outs HFU.out).1
        clear hnb HRb HNBb
        refine wp_region_held_drew (S := fun W => W.cell? ⟨GB, 0, none⟩ = some (.int .i64 σ.made) ∧ W.cell? ⟨p.fb, 1, none⟩ = some (.int .i64 a)) (by kernel_rfl) hS0 (fun hS => ?_)
        refine rt_take (i := 0) (some 148) (.pointer (some ⟨E.r, 0, none⟩)) rfl rfl (by kernel_rfl) (by kernel_rfl) (by kernel_rfl) (fun _ _ _ h => h) (by kernel_rfl) hS (fun W _ => by kernel_rfl) ?_
        refine rt_take (i := 1) (some 149) (.pointer (some ⟨GB, 0, none⟩)) rfl rfl (by kernel_rfl) (by kernel_rfl) (by kernel_rfl) (fun _ _ _ h => h) (by kernel_rfl) hS (fun W _ => by kernel_rfl) ?_
        refine rt_take (i := 2) (some 150) (.pointer (some ⟨GB, 0, none⟩)) rfl rfl (by kernel_rfl) (by kernel_rfl) (by kernel_rfl) (fun _ _ _ h => h) (by kernel_rfl) hS (fun W _ => by kernel_rfl) ?_
        refine rt_take (i := 3) (some 151) (.pointer (some ⟨GB, 0, none⟩)) rfl rfl (by kernel_rfl) (by kernel_rfl) (by kernel_rfl) (fun _ _ _ h => h) (by kernel_rfl) hS (fun W _ => by kernel_rfl) ?_
        refine rt_take (i := 4) (some 152) (.int .i64 σ.made) rfl rfl (by kernel_rfl) (by kernel_rfl) (by kernel_rfl) (fun _ _ _ h => h) (by kernel_rfl) hS (fun W hb => rl_int rfl (by kernel_rfl) hb.1) ?_
        refine rt_take (i := 5) (some 153) (.pointer (some ⟨p.fb, 0, none⟩)) rfl rfl (by kernel_rfl) (by kernel_rfl) (by kernel_rfl) (fun _ _ _ h => h) (by kernel_rfl) hS (fun W _ => by kernel_rfl) ?_
        refine rt_take (i := 6) (some 154) (.pointer (some ⟨p.fb, 0, none⟩)) rfl rfl (by kernel_rfl) (by kernel_rfl) (by kernel_rfl) (fun _ _ _ h => h) (by kernel_rfl) hS (fun W _ => by kernel_rfl) ?_
        refine rt_take (i := 7) (some 155) (.pointer (some ⟨p.fb, 1, none⟩)) rfl rfl (by kernel_rfl) (by kernel_rfl) (by kernel_rfl) (fun _ _ _ h => h) (by kernel_rfl) hS (fun W _ => by kernel_rfl) ?_
        refine rt_take (i := 8) (some 156) (.int .i64 a) rfl rfl (by kernel_rfl) (by kernel_rfl) (by kernel_rfl) (fun _ _ _ h => h) (by kernel_rfl) hS (fun W hb => rl_int rfl (by kernel_rfl) hb.2) ?_
        refine rt_take (i := 9) (some 157) (.int .i64 rv) rfl rfl (by kernel_rfl) (by kernel_rfl) (by kernel_rfl) (fun _ _ _ h => h) (by kernel_rfl) hS (fun W _ => by kernel_rfl) ?_
        refine rt_take (i := 10) (some 158) (.agg #[.int .i64 6, .int .i64 σ.made, .int .i64 a, .int .i64 0, .int .i64 0, .int .i64 rv]) rfl rfl (by kernel_rfl) (by kernel_rfl) (by kernel_rfl) (fun _ _ _ h => h) (by kernel_rfl) hS (fun W _ => by kernel_rfl) ?_
        refine rt_call (i := 11) (some 159) (by kernel_rfl) rfl rfl (by kernel_rfl) 148 #[.pointer (some ⟨E.r, 0, none⟩), .agg #[.int .i64 6, .int .i64 σ.made, .int .i64 a, .int .i64 0, .int .i64 0, .int .i64 rv]] (by kernel_rfl) (tell_any E.w0 E.ps E.fuel E.fs E.L E.r _ _ _ _ _ 6 σ.made a 0 0 rv _ HRc2.out (by have := HO3.out; omega)) ?_
        rintro y W12 ⟨rfl, hr12, hk12⟩
        have hs12 := HSc2.out.tr (Stays.told hk12 HSc2.out.k.size)
        refine ⟨_, rfl, ⟨(HNBc.out.kept hk12 HNBc.out.lt (by decide)).cell rfl, (HFc.out.kept hs12.k (Nat.le_refl _)).c01.2⟩, fun hS => ?_⟩
        refine wpAnyH_done (by kernel_rfl) ?_ _
        try simp only [Act.put, List.setIfInBounds_toArray, List.set_cons_zero, List.set_cons_succ]
        have HR12 := Lib.hid hr12
        have HS12 := Lib.hid hs12
        clear hS hS0 hr12 hk12 hs12 HRc2 HSc2 HNBc HSb
        go_upto_region 29 with fail
        have HR13 := Lib.hid (RnM.keep HR12.out ((Bel.rfl_ W12).dr))
        have HS13 := Lib.hid (HS12.out.tr (Stays.bel ((Bel.rfl_ W12).dr) (RnM.bel HR12.out).size))
        have HF13 := Lib.hid (HFc.out.kept HS13.out.k (Nat.le_refl _))
        have HX13 := Lib.hid (HXc.out.kept HS13.out.j HXQ.out (by decide))
        have hvt : x.var.toNat < F.vars.length := by have := HNX.out.fits.1; have := HCI.out.1; have := HCI.out.2.1; omega
        have HWR := Lib.hid (write_any (v := x.var) (i := 0) (l := F.vars.getD x.var.toNat []) HR13.out (by rw [List.length_append, List.length_singleton]; have := HO3.out; omega) HF13.out HLL.out HCI.out.2.1 (by rw [List.getD_eq_getElem?_getD, List.getElem?_eq_getElem hvt]; rfl) (Int.le_refl 0) (by have := HNX.out.fits.len HCI.out.2.1 HCI.out.1 HCI.out.2.2; omega) a rv)
        clear hvt HR12 HS12
        refine wp_region_held_drew (S := See p.fb Q p.num a x.var) (by kernel_rfl) (HF13.out.see HX13.out HC1.out) (fun hS => ?_)
        refine rt_take (i := 0) (some 160) (.pointer (some ⟨E.r, 0, none⟩)) rfl rfl (by kernel_rfl) (by kernel_rfl) (by kernel_rfl) (fun _ _ _ h => h) (by kernel_rfl) hS (fun W _ => by kernel_rfl) ?_
        refine rt_take (i := 1) (some 161) (.pointer (some ⟨p.fb, 0, none⟩)) rfl rfl (by kernel_rfl) (by kernel_rfl) (by kernel_rfl) (fun _ _ _ h => h) (by kernel_rfl) hS (fun W _ => by kernel_rfl) ?_
        refine rt_take (i := 2) (some 162) (.pointer (some ⟨p.fb, 0, none⟩)) rfl rfl (by kernel_rfl) (by kernel_rfl) (by kernel_rfl) (fun _ _ _ h => h) (by kernel_rfl) hS (fun W _ => by kernel_rfl) ?_
        refine rt_take (i := 3) (some 163) (.pointer (some ⟨p.fb, 0, none⟩)) rfl rfl (by kernel_rfl) (by kernel_rfl) (by kernel_rfl) (fun _ _ _ h => h) (by kernel_rfl) hS (fun W _ => by kernel_rfl) ?_
        refine rt_take (i := 4) (some 164) (.pointer (some ⟨p.fb, 1, none⟩)) rfl rfl (by kernel_rfl) (by kernel_rfl) (by kernel_rfl) (fun _ _ _ h => h) (by kernel_rfl) hS (fun W _ => by kernel_rfl) ?_
        refine rt_take (i := 5) (some 165) (.int .i64 a) rfl rfl (by kernel_rfl) (by kernel_rfl) (by kernel_rfl) (fun _ _ _ h => h) (by kernel_rfl) hS (fun W hb => rl_int rfl (by kernel_rfl) hb.2.1) ?_
        refine rt_take (i := 6) (some 166) (.pointer (some ⟨Q, 1, none⟩)) rfl rfl (by kernel_rfl) (by kernel_rfl) (by kernel_rfl) (fun _ _ _ h => h) (by kernel_rfl) hS (fun W _ => by kernel_rfl) ?_
        refine rt_take (i := 7) (some 167) (.int .i64 x.var) rfl rfl (by kernel_rfl) (by kernel_rfl) (by kernel_rfl) (fun _ _ _ h => h) (by kernel_rfl) hS (fun W hb => rl_int rfl (by kernel_rfl) hb.2.2) ?_
        refine rt_take (i := 8) (some 168) (.int .i64 rv) rfl rfl (by kernel_rfl) (by kernel_rfl) (by kernel_rfl) (fun _ _ _ h => h) (by kernel_rfl) hS (fun W _ => by kernel_rfl) ?_
        refine rt_call (i := 9) (some 169) (by kernel_rfl) rfl rfl (by kernel_rfl) 163 #[.pointer (some ⟨E.r, 0, none⟩), .pointer (some ⟨p.fb, 0, none⟩), .int .i64 a, .int .i64 x.var, .int .i64 0, .int .i64 rv] (by kernel_rfl) (HWR.out) ?_
        rintro y W14 ⟨rfl, hr14, hf14, hs14⟩
        refine ⟨_, rfl, hf14.see (HX13.out.kept hs14.j HX13.out.lt (by decide)) HC1.out, fun hS => ?_⟩
        refine wpAnyH_done (by kernel_rfl) ?_ _
        try simp only [Act.put, List.setIfInBounds_toArray, List.set_cons_zero, List.set_cons_succ]
        have HA14 : Hid (AtS E p T _ W14) := Lib.hid ⟨_, (HG3.out.next HPR.out HD3.out (F' := { F with at_ := a, tasks := T, vars := setC F.vars x.var 0 rv }) (rest' := p.rest) rfl HG3.out.on).1, HNX.out.num, HNX.out.fn, rfl, hf14, hr14⟩
        have HRE14 := Lib.hid (HRR.out.tr (HG3.out.next HPR.out HD3.out (F' := { F with at_ := a, tasks := T, vars := setC F.vars x.var 0 rv }) (rest' := p.rest) rfl HG3.out.on).2)
        have HST14 := Lib.hid ((HSTc.out.tr (HS13.out.mono HLc.out)).tr hs14)
        clear hS hr14 hf14 hs14 HWR
        go_wp2
        go_ret
        exact ⟨true, rfl, Res.on HRE14.out HST14.out HA14.out⟩
end Go.Proofs.Ytgkpplbomciehaa
