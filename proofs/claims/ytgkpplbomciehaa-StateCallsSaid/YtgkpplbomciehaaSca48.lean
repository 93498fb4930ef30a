/- What the calls of a trace say of the frames: walked. Each lemma states its own conditions. -/
import Derived.Test.YtgkpplbomciehaaSca46
import Derived.Test.YtgkpplbomciehaaSca47
namespace Go.Proofs.Ytgkpplbomciehaa
open Go.RowKit
theorem loadSP {ops : Array Oper} {rest : List Oper} {o1 : Oper} {a : Act} {w : World} {Q : Exit → Act → World → Prop} (x : Operand) (hg1 : o1.guard = none) (ho1 : o1.op = .load SPT x) (b o : Nat) (hx : a.eval x = .pointer (some ⟨b, o, none⟩)) (s : Spn) (hc : CellsAt w b o s.cells)
    (h : wpList Try.prog ops Q rest (a.put o1.dst (.agg #[.int .i64 s.frame, .int .i64 s.fn, .int .i64 s.by_, .int .i64 s.from_, .int .i64 s.to_, .int .i64 s.answer])) w) : wpList Try.prog ops Q (o1 :: rest) a w := by
  obtain ⟨d, hu, hd⟩ : ∃ d, Try.prog.underlying SPT = some d ∧ d.isRow = true := und_of (by kernel_rfl)
  obtain ⟨i, zv, hi, hz0, hz1, hz2, hz3⟩ := elSP.inf
  exact wpList_load_mid hg1 _ x ho1 b o hx s.cells d hc hu hd (by rw [hi, Option.map_some, hz1]; rfl) h
theorem rb_subH {o : Oper} {ρ : Operand → Value} {W : World} {x y : Operand} {t2 : TypeId} {k l m : Int} (ho : o.op = .binOp .sub 3 x y t2) (hx : ρ x = .int .i64 k) (hy : ρ y = .int .i64 l) (h0 : -9223372036854775808 ≤ k - l) (h1 : k - l ≤ 9223372036854775807) (hm : k - l = m) : (execOp ρ o).run Try.prog W = .ok (.value (.int .i64 m)) W := by
  subst hm
  have hw : IntKind.i64.wrap (k - l) = k - l := by rw [IntKind.wrap_i64]; omega
  simp [execOp, ho, hx, hy, hw, go_sem]
theorem rb_geqH {o : Oper} {ρ : Operand → Value} {W : World} {x y : Operand} {t2 : TypeId} {k l : Int} {c : Bool} (ho : o.op = .binOp .geq 3 x y t2) (hx : ρ x = .int .i64 k) (hy : ρ y = .int .i64 l) (hc : decide (k ≥ l) = c) : (execOp ρ o).run Try.prog W = .ok (.value (.bool c)) W := by
  subst hc
  simp [execOp, ho, hx, hy, go_sem]
theorem filter_snoc {α : Type} {p : α → Bool} {l : List α} {k : Nat} {x : α} (h : l[k]? = some x) : (l.take (k + 1)).filter p = if p x then (l.take k).filter p ++ [x] else (l.take k).filter p := by
  rw [take_snoc h, List.filter_append]
  cases hp : p x with
  | true => rw [List.filter_cons_of_pos hp]; rfl
  | false => rw [List.filter_cons_of_neg (by rw [hp]; decide)]; simp
set_option maxRecDepth 20000 in
set_option maxHeartbeats 8000000 in
theorem stCallsLaw_any (ps : List PF) (l : List Ev) (T : Int) (vp vl : Value) (w : World) (h : Sl pfR w vp ps) (hl : Sl evR w vl l) : Calls Try.prog 12 #[.agg #[vp], vl, .int .i64 T] w fun x w' => x = .returned (.bool true) ∧ Bel w w' := by
  have HSL := Lib.hid h
  have HEV := Lib.hid hl
  obtain ⟨A, c, rfl, -⟩ := sl_lit h
  obtain ⟨Ae, ce, rfl, hll⟩ := sl_lit hl
  have HB1 : Hid (Bel w (w.alloc (.cells #[.slice A ps.length c] PGT))) := Lib.hid ((Bel.rfl_ w).al _)
  have HP1 := Lib.hid (Blk.new w PGT #[.slice A ps.length c])
  have HAT := Lib.hid (fun W (hb : Bel w W) => stAt_any ps l T _ _ W (HSL.out.keep hb) (HEV.out.keep hb))
  have HCA := Lib.hid (fun W (hb : Bel w W) => stCalls_any ps l _ _ W (HSL.out.keep hb) (HEV.out.keep hb))
  have HOK := Lib.hid (@calls_ok ps l T)
  have HLN := Lib.hid (fun (h : stateE ps l = 0) => show (callsTo ps l l.length).length ≤ 4001 by
    have h1 := callsTo_len ps l l.length (Nat.le_refl _)
    have h2 := (evs_len ps (l.take l.length) (Rp.start ps)).2
    have h3 : (Rp.start ps).fns.length = 1 := rfl
    have h4 := (stateE_ok h).2.2
    rw [List.take_length] at h2
    rw [List.take_length] at h1
    omega)
  have HAS := Lib.hid (fun (h : atE ps l T = 0) => (atE_ok h).1)
  clear h hl
  generalize atE ps l T = E1 at *
  generalize stateE ps l = E2 at *
  generalize frsAt ps l T = FS at *
  generalize callsTo ps l l.length = CC at *
  go_enter Try.func12, Try.ntmps12
  go_wp2_with fail
  refine (stateBegun_any _).mono ?_
  rintro r w2 ⟨rfl, b2⟩
  have HB2 := Lib.hid (HB1.out.tr b2)
  have HP2 := Lib.hid (HP1.out.keep b2)
  clear b2 HP1 HB1
  generalize w.alloc _ = W1 at *
  generalize w.heap.size = Q at *
  have c0 := HP2.out.cell (i := 0) rfl
  go_wp2_with fail
  refine (HAT.out _ HB2.out).mono ?_
  rintro r w3 ⟨b3, va, rfl, -, hok⟩
  have HB3 := Lib.hid (HB2.out.tr b3)
  have HP3 := Lib.hid (HP2.out.keep b3)
  have HF3 := Lib.hid hok
  clear b3 c0 HB2 HP2 HAT hok
  have c0 := HP3.out.cell (i := 0) rfl
  go_wp2_with fail
  refine (HCA.out _ HB3.out).mono ?_
  rintro r w4 ⟨b4, vc, rfl, -, hok⟩
  have HB4 := Lib.hid (HB3.out.tr b4)
  have HF4 := Lib.hid (fun he => (HF3.out he).keep b4)
  have HC4 := Lib.hid hok
  clear b4 c0 HB3 HP3 HCA hok HF3
  by_cases h1 : E1 = 0
  rotate_left
  · have d1 : (E1 != 0) = true := by simpa using h1
    clear h1
    go_wp2
    go_ret
    exact ⟨rfl, HB4.out⟩
  have d1 : (E1 != 0) = false := by simpa using h1
  have h2 := HAS.out h1
  have d2 : (E2 != 0) = false := by simpa using h2
  replace HF4 := Lib.hid (HF4.out h1)
  replace HC4 := Lib.hid (HC4.out h2)
  replace HOK := Lib.hid (HOK.out h1)
  have hln := HLN.out h2
  obtain ⟨Af, cf, rfl, hfl⟩ := sl_lit HF4.out
  obtain ⟨Ac, cc, rfl, hcl⟩ := sl_lit HC4.out
  have HO0 : Hid (w4.ownsRow w4.heap.size SPT 6 (.slice none 0 0) ((CC.take 0).filter (openT T)).length (spC ((CC.take 0).filter (openT T)))) := Lib.hid (World.ownsRow_nil _ _ _ _)
  have HR0 := Lib.hid (Bel.rfl_ w4)
  clear h1 h2 HLN HAS
  go_wp2
  go_loopw [11, 12] (fun u i wr => ∃ j : Nat, i = .int .i64 j ∧ j ≤ CC.length ∧ Hid (Bel w4 wr) ∧ Hid (wr.ownsRow w4.heap.size SPT 6 u ((CC.take j).filter (openT T)).length (spC ((CC.take j).filter (openT T))))) (fun _ i _ => CC.length - (intOf i).toNat)
  case atStart => exact ⟨0, rfl, Nat.zero_le _, HR0, HO0⟩
  case round =>
    obtain ⟨j, rfl, hj, HB, HO⟩ := hrel
    obtain ⟨WO, hWO⟩ : ∃ W, W = wr := ⟨_, rfl⟩
    subst hWO
    clear HR0 HO0
    have i0 : (0 : Int) ≤ j := by omega
    by_cases hlt : j < CC.length
    rotate_left
    · have hdd : decide ((j : Int) < CC.length) = false := decide_eq_false (by omega)
      have hjl : j = CC.length := by omega
      subst hjl
      rw [List.take_length] at HO
      have HOL := Lib.hid HOK.out.2.1
      have HEL := Lib.hid HOK.out.2.2
      have HU := Lib.hid (Sl.own_spn HO.out rfl)
      generalize CC.filter (openT T) = OP at *
      obtain ⟨Ao, co, rfl, hol⟩ := sl_lit HU.out
      have hlen := HOL.out
      have dn : ((FS.length : Int) != (OP.length : Int)) = false := by rw [hlen]; simp
      have HF5 := Lib.hid (HF4.out.keep HB.out)
      have HB5 := Lib.hid (HB4.out.tr HB.out)
      have HR0 := Lib.hid (Bel.rfl_ WO)
      clear hj HO HOL HOK HC4 HB HF4 HB4
      go_wp2
      go_loopw [13] (fun i wr => ∃ j : Nat, i = .int .i64 j ∧ j ≤ FS.length ∧ Hid (Bel WO wr)) (fun i _ => FS.length - (intOf i).toNat)
      case atStart => exact ⟨0, rfl, Nat.zero_le _, HR0⟩
      case round =>
        obtain ⟨k, rfl, hk, HB⟩ := hrel
        obtain ⟨WP, hWP⟩ : ∃ W, W = wr := ⟨_, rfl⟩
        subst hWP
        clear HR0
        have k0 : (0 : Int) ≤ k := by omega
        by_cases hlk : k < FS.length
        rotate_left
        · have hdk : decide ((k : Int) < FS.length) = false := decide_eq_false (by omega)
          have HX := Lib.hid (HB5.out.tr HB.out)
          clear hk
          go_wp2
          go_ret
          exact ⟨rfl, HX.out⟩
        have hdk : decide ((k : Int) < FS.length) = true := decide_eq_true (by omega)
        have k1 : (k : Int) < FS.length := by omega
        have k2 : (k : Int) < OP.length := by omega
        obtain ⟨f, hf⟩ : ∃ f, FS[k]? = some f := ⟨_, List.getElem?_eq_getElem hlk⟩
        obtain ⟨x, hx⟩ : ∃ x, OP[k]? = some x := ⟨_, List.getElem?_eq_getElem (by omega)⟩
        obtain ⟨e1, e2, e3⟩ := HEL.out k f x hf hx
        obtain ⟨bf, of_, cs, rfl, hcs, hca⟩ := HF5.out.elem hf
        obtain ⟨vv, rfl, hsv⟩ := hcs
        have q0 : WO.cell? ⟨bf, of_ + k * 3, none⟩ = some (.int .i64 f.num) := hca 0 _ rfl
        have q1 : WO.cell? ⟨bf, of_ + k * 3 + 1, none⟩ = some (.int .i64 f.fn) := hca 1 _ rfl
        obtain ⟨bo, oo, cx, rfl, hcx, hcxa⟩ := HU.out.elem hx
        obtain rfl : cx = x.cells := hcx
        have p0 : WO.cell? ⟨bo, oo + k * 6, none⟩ = some (.int .i64 f.num) := by rw [← e1]; exact hcxa 0 _ rfl
        have p1 : WO.cell? ⟨bo, oo + k * 6 + 1, none⟩ = some (.int .i64 f.fn) := by rw [← e2]; exact hcxa 1 _ rfl
        have p2 : WO.cell? ⟨bo, oo + k * 6 + 2, none⟩ = some (.int .i64 x.by_) := hcxa 2 _ rfl
        have Q0 := Lib.hid q0
        have Q1 := Lib.hid q1
        have P0 := Lib.hid p0
        have P1 := Lib.hid p1
        have P2 := Lib.hid p2
        clear hca hsv hcxa q0 q1 p0 p1 p2
        go_upto_region 20 with fail
        by_cases hk0 : k = 0
        · subst hk0
          refine wp_region_held_drew (S := fun W => Bel WO W) (by kernel_rfl) (HB.out.dr) (fun hS => ?_)
          refine rt_take (i := 0) (some 94) (.slice (some ⟨bf, of_, none⟩) FS.length cf) rfl rfl (by kernel_rfl) (by kernel_rfl) (by kernel_rfl) (fun _ _ _ h => h) (by kernel_rfl) hS (fun W _ => by kernel_rfl) ?_
          refine rt_take (i := 1) (some 95) (.int .i64 ((0 : Nat) : Int)) rfl rfl (by kernel_rfl) (by kernel_rfl) (by kernel_rfl) (fun _ _ _ h => h) (by kernel_rfl) hS (fun W _ => by kernel_rfl) ?_
          refine rt_take (i := 2) (some 96) (.pointer (some ⟨bf, of_ + 0 * 3, none⟩)) rfl rfl (by kernel_rfl) (by kernel_rfl) (by kernel_rfl) (fun _ _ _ h => h) (by kernel_rfl) hS (fun W _ => by go_simp) ?_
          refine rt_take (i := 3) (some 97) (.pointer (some ⟨bf, of_ + 0 * 3, none⟩)) rfl rfl (by kernel_rfl) (by kernel_rfl) (by kernel_rfl) (fun _ _ _ h => h) (by kernel_rfl) hS (fun W _ => by kernel_rfl) ?_
          refine rt_take (i := 4) (some 98) (.int .i64 f.num) rfl rfl (by kernel_rfl) (by kernel_rfl) (by kernel_rfl) (fun _ _ _ h => h) (by kernel_rfl) hS (fun W hb => rl_int rfl (by kernel_rfl) (hb.cell Q0.out)) ?_
          refine rt_take (i := 5) (some 99) (.slice (some ⟨bo, oo, none⟩) OP.length co) rfl rfl (by kernel_rfl) (by kernel_rfl) (by kernel_rfl) (fun _ _ _ h => h) (by kernel_rfl) hS (fun W _ => by kernel_rfl) ?_
          refine rt_take (i := 6) (some 100) (.int .i64 ((0 : Nat) : Int)) rfl rfl (by kernel_rfl) (by kernel_rfl) (by kernel_rfl) (fun _ _ _ h => h) (by kernel_rfl) hS (fun W _ => by kernel_rfl) ?_
          refine rt_take (i := 7) (some 101) (.pointer (some ⟨bo, oo + 0 * 6, none⟩)) rfl rfl (by kernel_rfl) (by kernel_rfl) (by kernel_rfl) (fun _ _ _ h => h) (by kernel_rfl) hS (fun W _ => by go_simp) ?_
          refine rt_take (i := 8) (some 102) (.pointer (some ⟨bo, oo + 0 * 6, none⟩)) rfl rfl (by kernel_rfl) (by kernel_rfl) (by kernel_rfl) (fun _ _ _ h => h) (by kernel_rfl) hS (fun W _ => by kernel_rfl) ?_
          refine rt_take (i := 9) (some 103) (.int .i64 f.num) rfl rfl (by kernel_rfl) (by kernel_rfl) (by kernel_rfl) (fun _ _ _ h => h) (by kernel_rfl) hS (fun W hb => rl_int rfl (by kernel_rfl) (hb.cell P0.out)) ?_
          refine rt_take (i := 10) (some 104) (.bool false) rfl rfl (by kernel_rfl) (by kernel_rfl) (by kernel_rfl) (fun _ _ _ h => h) (by kernel_rfl) hS (fun W _ => rb_neqI (k :=  f.num) (l :=  f.num) rfl (by kernel_rfl) (by kernel_rfl) (bne_self_eq_false _)) ?_
          refine rt_take (i := 11) (some 105) (.bool false) rfl rfl (by kernel_rfl) (by kernel_rfl) (by kernel_rfl) (fun _ _ _ h => h) (by kernel_rfl) hS (fun W _ => by kernel_rfl) ?_
          refine rt_take (i := 12) (some 106) (.slice (some ⟨bf, of_, none⟩) FS.length cf) rfl rfl (by kernel_rfl) (by kernel_rfl) (by kernel_rfl) (fun _ _ _ h => h) (by kernel_rfl) hS (fun W _ => by kernel_rfl) ?_
          refine rt_take (i := 13) (some 107) (.int .i64 ((0 : Nat) : Int)) rfl rfl (by kernel_rfl) (by kernel_rfl) (by kernel_rfl) (fun _ _ _ h => h) (by kernel_rfl) hS (fun W _ => by kernel_rfl) ?_
          refine rt_take (i := 14) (some 108) (.pointer (some ⟨bf, of_ + 0 * 3, none⟩)) rfl rfl (by kernel_rfl) (by kernel_rfl) (by kernel_rfl) (fun _ _ _ h => h) (by kernel_rfl) hS (fun W _ => by go_simp) ?_
          refine rt_take (i := 15) (some 109) (.pointer (some ⟨bf, of_ + 0 * 3 + 1, none⟩)) rfl rfl (by kernel_rfl) (by kernel_rfl) (by kernel_rfl) (fun _ _ _ h => h) (by kernel_rfl) hS (fun W _ => by kernel_rfl) ?_
          refine rt_take (i := 16) (some 110) (.int .i64 f.fn) rfl rfl (by kernel_rfl) (by kernel_rfl) (by kernel_rfl) (fun _ _ _ h => h) (by kernel_rfl) hS (fun W hb => rl_int rfl (by kernel_rfl) (hb.cell Q1.out)) ?_
          refine rt_take (i := 17) (some 111) (.slice (some ⟨bo, oo, none⟩) OP.length co) rfl rfl (by kernel_rfl) (by kernel_rfl) (by kernel_rfl) (fun _ _ _ h => h) (by kernel_rfl) hS (fun W _ => by kernel_rfl) ?_
          refine rt_take (i := 18) (some 112) (.int .i64 ((0 : Nat) : Int)) rfl rfl (by kernel_rfl) (by kernel_rfl) (by kernel_rfl) (fun _ _ _ h => h) (by kernel_rfl) hS (fun W _ => by kernel_rfl) ?_
          refine rt_take (i := 19) (some 113) (.pointer (some ⟨bo, oo + 0 * 6, none⟩)) rfl rfl (by kernel_rfl) (by kernel_rfl) (by kernel_rfl) (fun _ _ _ h => h) (by kernel_rfl) hS (fun W _ => by go_simp) ?_
          refine rt_take (i := 20) (some 114) (.pointer (some ⟨bo, oo + 0 * 6 + 1, none⟩)) rfl rfl (by kernel_rfl) (by kernel_rfl) (by kernel_rfl) (fun _ _ _ h => h) (by kernel_rfl) hS (fun W _ => by kernel_rfl) ?_
          refine rt_take (i := 21) (some 115) (.int .i64 f.fn) rfl rfl (by kernel_rfl) (by kernel_rfl) (by kernel_rfl) (fun _ _ _ h => h) (by kernel_rfl) hS (fun W hb => rl_int rfl (by kernel_rfl) (hb.cell P1.out)) ?_
          refine rt_take (i := 22) (some 116) (.bool false) rfl rfl (by kernel_rfl) (by kernel_rfl) (by kernel_rfl) (fun _ _ _ h => h) (by kernel_rfl) hS (fun W _ => rb_neqI (k :=  f.fn) (l :=  f.fn) rfl (by kernel_rfl) (by kernel_rfl) (bne_self_eq_false _)) ?_
          refine rt_take (i := 23) (some 117) (.bool false) rfl rfl (by kernel_rfl) (by kernel_rfl) (by kernel_rfl) (fun _ _ _ h => h) (by kernel_rfl) hS (fun W _ => by kernel_rfl) ?_
          refine rt_take (i := 24) (some 118) (.bool false) rfl rfl (by kernel_rfl) (by kernel_rfl) (by kernel_rfl) (fun _ _ _ h => h) (by kernel_rfl) hS (fun W _ => by kernel_rfl) ?_
          refine rt_take (i := 25) (some 119) (.int .i64 ((0 : Nat) : Int)) rfl rfl (by kernel_rfl) (by kernel_rfl) (by kernel_rfl) (fun _ _ _ h => h) (by kernel_rfl) hS (fun W _ => by kernel_rfl) ?_
          refine rt_take (i := 26) (some 120) (.bool false) rfl rfl (by kernel_rfl) (by kernel_rfl) (by kernel_rfl) (fun _ _ _ h => h) (by kernel_rfl) hS (fun W _ => by kernel_rfl) ?_
          refine rt_take (i := 27) (some 121) (.bool false) rfl rfl (by kernel_rfl) (by kernel_rfl) (by kernel_rfl) (fun _ _ _ h => h) (by kernel_rfl) hS (fun W _ => by kernel_rfl) ?_
          refine rt_skip (i := 28) (some 122) rfl rfl (by kernel_rfl) (by kernel_rfl) (by kernel_rfl) (fun _ _ _ h => h) (by kernel_rfl) hS ?_
          refine rt_skip (i := 29) (some 123) rfl rfl (by kernel_rfl) (by kernel_rfl) (by kernel_rfl) (fun _ _ _ h => h) (by kernel_rfl) hS ?_
          refine rt_skip (i := 30) (some 124) rfl rfl (by kernel_rfl) (by kernel_rfl) (by kernel_rfl) (fun _ _ _ h => h) (by kernel_rfl) hS ?_
          refine rt_skip (i := 31) (some 125) rfl rfl (by kernel_rfl) (by kernel_rfl) (by kernel_rfl) (fun _ _ _ h => h) (by kernel_rfl) hS ?_
          refine rt_skip (i := 32) (some 126) rfl rfl (by kernel_rfl) (by kernel_rfl) (by kernel_rfl) (fun _ _ _ h => h) (by kernel_rfl) hS ?_
          refine rt_skip (i := 33) (some 127) rfl rfl (by kernel_rfl) (by kernel_rfl) (by kernel_rfl) (fun _ _ _ h => h) (by kernel_rfl) hS ?_
          refine rt_skip (i := 34) (some 128) rfl rfl (by kernel_rfl) (by kernel_rfl) (by kernel_rfl) (fun _ _ _ h => h) (by kernel_rfl) hS ?_
          refine rt_skip (i := 35) (some 129) rfl rfl (by kernel_rfl) (by kernel_rfl) (by kernel_rfl) (fun _ _ _ h => h) (by kernel_rfl) hS ?_
          refine rt_skip (i := 36) (some 130) rfl rfl (by kernel_rfl) (by kernel_rfl) (by kernel_rfl) (fun _ _ _ h => h) (by kernel_rfl) hS ?_
          refine rt_skip (i := 37) (some 131) rfl rfl (by kernel_rfl) (by kernel_rfl) (by kernel_rfl) (fun _ _ _ h => h) (by kernel_rfl) hS ?_
          refine rt_skip (i := 38) (some 132) rfl rfl (by kernel_rfl) (by kernel_rfl) (by kernel_rfl) (fun _ _ _ h => h) (by kernel_rfl) hS ?_
          refine rt_skip (i := 39) (some 133) rfl rfl (by kernel_rfl) (by kernel_rfl) (by kernel_rfl) (fun _ _ _ h => h) (by kernel_rfl) hS ?_
          refine rt_take (i := 40) (some 134) (.bool false) rfl rfl (by kernel_rfl) (by kernel_rfl) (by kernel_rfl) (fun _ _ _ h => h) (by kernel_rfl) hS (fun W _ => by kernel_rfl) ?_
          refine rt_take (i := 41) (some 135) (.bool false) rfl rfl (by kernel_rfl) (by kernel_rfl) (by kernel_rfl) (fun _ _ _ h => h) (by kernel_rfl) hS (fun W _ => by kernel_rfl) ?_
          refine wpAnyH_done (by kernel_rfl) ?_ _
          try simp only [Act.put, List.setIfInBounds_toArray, List.set_cons_zero, List.set_cons_succ]
          have HBD := Lib.hid hS
          clear hS HB
          go_wp2
          go_roundw
          case rel => exact ⟨0 + 1, by go_num, by omega, HBD⟩
          case measure => simp [intOf]; omega
        · obtain ⟨m, hm⟩ : ∃ m : Nat, m = k - 1 := ⟨_, rfl⟩
          have hg1 : m < FS.length := by omega
          have m0 : (0 : Int) ≤ m := by omega
          have m1 : (m : Int) < FS.length := by omega
          obtain ⟨g, hg⟩ : ∃ g, FS[m]? = some g := ⟨_, List.getElem?_eq_getElem hg1⟩
          have e4 : x.by_ = g.num := e3 g (by omega) (by rw [← hm]; exact hg)
          obtain ⟨bg, og, cs2, he5, hcs2, hca2⟩ := HF5.out.elem hg
          obtain ⟨rfl, rfl⟩ : bf = bg ∧ of_ = og := by injection he5 with h; injection h with h1 h2; exact ⟨h1, h2⟩
          obtain ⟨vg, rfl, hsg⟩ := hcs2
          have Q3 : Hid (WO.cell? ⟨bf, of_ + m * 3, none⟩ = some (.int .i64 x.by_)) := Lib.hid (by rw [e4]; exact hca2 0 _ rfl)
          have hkm : Hid ((k : Int) - 1 = m) := Lib.hid (by omega)
          clear hsg hca2 hg e3 e4 he5 hm
          refine wp_region_held_drew (S := fun W => Bel WO W) (by kernel_rfl) (HB.out.dr) (fun hS => ?_)
          refine rt_take (i := 0) (some 94) (.slice (some ⟨bf, of_, none⟩) FS.length cf) rfl rfl (by kernel_rfl) (by kernel_rfl) (by kernel_rfl) (fun _ _ _ h => h) (by kernel_rfl) hS (fun W _ => by kernel_rfl) ?_
          refine rt_take (i := 1) (some 95) (.int .i64 (k : Int)) rfl rfl (by kernel_rfl) (by kernel_rfl) (by kernel_rfl) (fun _ _ _ h => h) (by kernel_rfl) hS (fun W _ => by kernel_rfl) ?_
          refine rt_take (i := 2) (some 96) (.pointer (some ⟨bf, of_ + k * 3, none⟩)) rfl rfl (by kernel_rfl) (by kernel_rfl) (by kernel_rfl) (fun _ _ _ h => h) (by kernel_rfl) hS (fun W _ => by go_simp) ?_
          refine rt_take (i := 3) (some 97) (.pointer (some ⟨bf, of_ + k * 3, none⟩)) rfl rfl (by kernel_rfl) (by kernel_rfl) (by kernel_rfl) (fun _ _ _ h => h) (by kernel_rfl) hS (fun W _ => by kernel_rfl) ?_
          refine rt_take (i := 4) (some 98) (.int .i64 f.num) rfl rfl (by kernel_rfl) (by kernel_rfl) (by kernel_rfl) (fun _ _ _ h => h) (by kernel_rfl) hS (fun W hb => rl_int rfl (by kernel_rfl) (hb.cell Q0.out)) ?_
          refine rt_take (i := 5) (some 99) (.slice (some ⟨bo, oo, none⟩) OP.length co) rfl rfl (by kernel_rfl) (by kernel_rfl) (by kernel_rfl) (fun _ _ _ h => h) (by kernel_rfl) hS (fun W _ => by kernel_rfl) ?_
          refine rt_take (i := 6) (some 100) (.int .i64 (k : Int)) rfl rfl (by kernel_rfl) (by kernel_rfl) (by kernel_rfl) (fun _ _ _ h => h) (by kernel_rfl) hS (fun W _ => by kernel_rfl) ?_
          refine rt_take (i := 7) (some 101) (.pointer (some ⟨bo, oo + k * 6, none⟩)) rfl rfl (by kernel_rfl) (by kernel_rfl) (by kernel_rfl) (fun _ _ _ h => h) (by kernel_rfl) hS (fun W _ => by go_simp) ?_
          refine rt_take (i := 8) (some 102) (.pointer (some ⟨bo, oo + k * 6, none⟩)) rfl rfl (by kernel_rfl) (by kernel_rfl) (by kernel_rfl) (fun _ _ _ h => h) (by kernel_rfl) hS (fun W _ => by kernel_rfl) ?_
          refine rt_take (i := 9) (some 103) (.int .i64 f.num) rfl rfl (by kernel_rfl) (by kernel_rfl) (by kernel_rfl) (fun _ _ _ h => h) (by kernel_rfl) hS (fun W hb => rl_int rfl (by kernel_rfl) (hb.cell P0.out)) ?_
          refine rt_take (i := 10) (some 104) (.bool false) rfl rfl (by kernel_rfl) (by kernel_rfl) (by kernel_rfl) (fun _ _ _ h => h) (by kernel_rfl) hS (fun W _ => rb_neqI (k :=  f.num) (l :=  f.num) rfl (by kernel_rfl) (by kernel_rfl) (bne_self_eq_false _)) ?_
          refine rt_take (i := 11) (some 105) (.bool false) rfl rfl (by kernel_rfl) (by kernel_rfl) (by kernel_rfl) (fun _ _ _ h => h) (by kernel_rfl) hS (fun W _ => by kernel_rfl) ?_
          refine rt_take (i := 12) (some 106) (.slice (some ⟨bf, of_, none⟩) FS.length cf) rfl rfl (by kernel_rfl) (by kernel_rfl) (by kernel_rfl) (fun _ _ _ h => h) (by kernel_rfl) hS (fun W _ => by kernel_rfl) ?_
          refine rt_take (i := 13) (some 107) (.int .i64 (k : Int)) rfl rfl (by kernel_rfl) (by kernel_rfl) (by kernel_rfl) (fun _ _ _ h => h) (by kernel_rfl) hS (fun W _ => by kernel_rfl) ?_
          refine rt_take (i := 14) (some 108) (.pointer (some ⟨bf, of_ + k * 3, none⟩)) rfl rfl (by kernel_rfl) (by kernel_rfl) (by kernel_rfl) (fun _ _ _ h => h) (by kernel_rfl) hS (fun W _ => by go_simp) ?_
          refine rt_take (i := 15) (some 109) (.pointer (some ⟨bf, of_ + k * 3 + 1, none⟩)) rfl rfl (by kernel_rfl) (by kernel_rfl) (by kernel_rfl) (fun _ _ _ h => h) (by kernel_rfl) hS (fun W _ => by kernel_rfl) ?_
          refine rt_take (i := 16) (some 110) (.int .i64 f.fn) rfl rfl (by kernel_rfl) (by kernel_rfl) (by kernel_rfl) (fun _ _ _ h => h) (by kernel_rfl) hS (fun W hb => rl_int rfl (by kernel_rfl) (hb.cell Q1.out)) ?_
          refine rt_take (i := 17) (some 111) (.slice (some ⟨bo, oo, none⟩) OP.length co) rfl rfl (by kernel_rfl) (by kernel_rfl) (by kernel_rfl) (fun _ _ _ h => h) (by kernel_rfl) hS (fun W _ => by kernel_rfl) ?_
          refine rt_take (i := 18) (some 112) (.int .i64 (k : Int)) rfl rfl (by kernel_rfl) (by kernel_rfl) (by kernel_rfl) (fun _ _ _ h => h) (by kernel_rfl) hS (fun W _ => by kernel_rfl) ?_
          refine rt_take (i := 19) (some 113) (.pointer (some ⟨bo, oo + k * 6, none⟩)) rfl rfl (by kernel_rfl) (by kernel_rfl) (by kernel_rfl) (fun _ _ _ h => h) (by kernel_rfl) hS (fun W _ => by go_simp) ?_
          refine rt_take (i := 20) (some 114) (.pointer (some ⟨bo, oo + k * 6 + 1, none⟩)) rfl rfl (by kernel_rfl) (by kernel_rfl) (by kernel_rfl) (fun _ _ _ h => h) (by kernel_rfl) hS (fun W _ => by kernel_rfl) ?_
          refine rt_take (i := 21) (some 115) (.int .i64 f.fn) rfl rfl (by kernel_rfl) (by kernel_rfl) (by kernel_rfl) (fun _ _ _ h => h) (by kernel_rfl) hS (fun W hb => rl_int rfl (by kernel_rfl) (hb.cell P1.out)) ?_
          refine rt_take (i := 22) (some 116) (.bool false) rfl rfl (by kernel_rfl) (by kernel_rfl) (by kernel_rfl) (fun _ _ _ h => h) (by kernel_rfl) hS (fun W _ => rb_neqI (k :=  f.fn) (l :=  f.fn) rfl (by kernel_rfl) (by kernel_rfl) (bne_self_eq_false _)) ?_
          refine rt_take (i := 23) (some 117) (.bool false) rfl rfl (by kernel_rfl) (by kernel_rfl) (by kernel_rfl) (fun _ _ _ h => h) (by kernel_rfl) hS (fun W _ => by kernel_rfl) ?_
          refine rt_take (i := 24) (some 118) (.bool false) rfl rfl (by kernel_rfl) (by kernel_rfl) (by kernel_rfl) (fun _ _ _ h => h) (by kernel_rfl) hS (fun W _ => by kernel_rfl) ?_
          refine rt_take (i := 25) (some 119) (.int .i64 (k : Int)) rfl rfl (by kernel_rfl) (by kernel_rfl) (by kernel_rfl) (fun _ _ _ h => h) (by kernel_rfl) hS (fun W _ => by kernel_rfl) ?_
          refine rt_take (i := 26) (some 120) (.bool true) rfl rfl (by kernel_rfl) (by kernel_rfl) (by kernel_rfl) (fun _ _ _ h => h) (by kernel_rfl) hS (fun W _ => rb_gtrI (k := k) (l := 0) rfl (by kernel_rfl) (by kernel_rfl) (decide_eq_true (by omega))) ?_
          refine rt_take (i := 27) (some 121) (.bool true) rfl rfl (by kernel_rfl) (by kernel_rfl) (by kernel_rfl) (fun _ _ _ h => h) (by kernel_rfl) hS (fun W _ => by kernel_rfl) ?_
          refine rt_take (i := 28) (some 122) (.slice (some ⟨bo, oo, none⟩) OP.length co) rfl rfl (by kernel_rfl) (by kernel_rfl) (by kernel_rfl) (fun _ _ _ h => h) (by kernel_rfl) hS (fun W _ => by kernel_rfl) ?_
          refine rt_take (i := 29) (some 123) (.int .i64 (k : Int)) rfl rfl (by kernel_rfl) (by kernel_rfl) (by kernel_rfl) (fun _ _ _ h => h) (by kernel_rfl) hS (fun W _ => by kernel_rfl) ?_
          refine rt_take (i := 30) (some 124) (.pointer (some ⟨bo, oo + k * 6, none⟩)) rfl rfl (by kernel_rfl) (by kernel_rfl) (by kernel_rfl) (fun _ _ _ h => h) (by kernel_rfl) hS (fun W _ => by go_simp) ?_
          refine rt_take (i := 31) (some 125) (.pointer (some ⟨bo, oo + k * 6 + 2, none⟩)) rfl rfl (by kernel_rfl) (by kernel_rfl) (by kernel_rfl) (fun _ _ _ h => h) (by kernel_rfl) hS (fun W _ => by kernel_rfl) ?_
          refine rt_take (i := 32) (some 126) (.int .i64 x.by_) rfl rfl (by kernel_rfl) (by kernel_rfl) (by kernel_rfl) (fun _ _ _ h => h) (by kernel_rfl) hS (fun W hb => rl_int rfl (by kernel_rfl) (hb.cell P2.out)) ?_
          refine rt_take (i := 33) (some 127) (.slice (some ⟨bf, of_, none⟩) FS.length cf) rfl rfl (by kernel_rfl) (by kernel_rfl) (by kernel_rfl) (fun _ _ _ h => h) (by kernel_rfl) hS (fun W _ => by kernel_rfl) ?_
          refine rt_take (i := 34) (some 128) (.int .i64 (k : Int)) rfl rfl (by kernel_rfl) (by kernel_rfl) (by kernel_rfl) (fun _ _ _ h => h) (by kernel_rfl) hS (fun W _ => by kernel_rfl) ?_
          refine rt_take (i := 35) (some 129) (.int .i64 (m : Int)) rfl rfl (by kernel_rfl) (by kernel_rfl) (by kernel_rfl) (fun _ _ _ h => h) (by kernel_rfl) hS (fun W _ => rb_subH (k := k) (l := 1) rfl (by kernel_rfl) (by kernel_rfl) (by omega) (by omega) hkm.out) ?_
          refine rt_take (i := 36) (some 130) (.pointer (some ⟨bf, of_ + m * 3, none⟩)) rfl rfl (by kernel_rfl) (by kernel_rfl) (by kernel_rfl) (fun _ _ _ h => h) (by kernel_rfl) hS (fun W _ => by go_simp) ?_
          refine rt_take (i := 37) (some 131) (.pointer (some ⟨bf, of_ + m * 3, none⟩)) rfl rfl (by kernel_rfl) (by kernel_rfl) (by kernel_rfl) (fun _ _ _ h => h) (by kernel_rfl) hS (fun W _ => by kernel_rfl) ?_
          refine rt_take (i := 38) (some 132) (.int .i64 x.by_) rfl rfl (by kernel_rfl) (by kernel_rfl) (by kernel_rfl) (fun _ _ _ h => h) (by kernel_rfl) hS (fun W hb => rl_int rfl (by kernel_rfl) (hb.cell Q3.out)) ?_
          refine rt_take (i := 39) (some 133) (.bool false) rfl rfl (by kernel_rfl) (by kernel_rfl) (by kernel_rfl) (fun _ _ _ h => h) (by kernel_rfl) hS (fun W _ => rb_neqI (k :=  x.by_) (l :=  x.by_) rfl (by kernel_rfl) (by kernel_rfl) (bne_self_eq_false _)) ?_
          refine rt_take (i := 40) (some 134) (.bool false) rfl rfl (by kernel_rfl) (by kernel_rfl) (by kernel_rfl) (fun _ _ _ h => h) (by kernel_rfl) hS (fun W _ => by kernel_rfl) ?_
          refine rt_take (i := 41) (some 135) (.bool false) rfl rfl (by kernel_rfl) (by kernel_rfl) (by kernel_rfl) (fun _ _ _ h => h) (by kernel_rfl) hS (fun W _ => by kernel_rfl) ?_
          refine wpAnyH_done (by kernel_rfl) ?_ _
          try simp only [Act.put, List.setIfInBounds_toArray, List.set_cons_zero, List.set_cons_succ]
          have HBD := Lib.hid hS
          clear hS HB
          go_wp2
          go_roundw
          case rel => exact ⟨k + 1, by go_num, by omega, HBD⟩
          case measure => simp [intOf]; omega
    have hdd : decide ((j : Int) < CC.length) = true := decide_eq_true (by omega)
    have i1 : (j : Int) < CC.length := by omega
    obtain ⟨x, hx⟩ : ∃ x, CC[j]? = some x := ⟨_, List.getElem?_eq_getElem hlt⟩
    have hxf := HOK.out.1 j x hx
    have hsn := filter_snoc (p := openT T) hx
    have hol : ((CC.take j).filter (openT T)).length ≤ j := by
      have h1 := List.length_filter_le (openT T) (CC.take j)
      rw [List.length_take] at h1
      omega
    obtain ⟨bc, oc, cx, rfl, hcx, hcxa⟩ := HC4.out.elem hx
    obtain rfl : cx = x.cells := hcx
    have HCX := Lib.hid (hcxa.keep HB.out)
    have p0 : WO.cell? ⟨bc, oc + j * 6, none⟩ = some (.int .i64 j) := by rw [← hxf]; exact HCX.out 0 _ rfl
    have p3 : WO.cell? ⟨bc, oc + j * 6 + 3, none⟩ = some (.int .i64 x.from_) := HCX.out 3 _ rfl
    have p4 : WO.cell? ⟨bc, oc + j * 6 + 4, none⟩ = some (.int .i64 x.to_) := HCX.out 4 _ rfl
    have dj : ((j : Int) != (j : Int)) = false := by simp
    obtain ⟨b0, hb0⟩ : ∃ b : Bool, ((j : Int) == 0) = b := ⟨_, rfl⟩
    obtain ⟨b1, hb1⟩ : ∃ b : Bool, decide (x.from_ < T) = b := ⟨_, rfl⟩
    obtain ⟨b2, hb2⟩ : ∃ b : Bool, decide (x.to_ < 0) = b := ⟨_, rfl⟩
    obtain ⟨b3, hb3⟩ : ∃ b : Bool, decide (x.to_ ≥ T) = b := ⟨_, rfl⟩
    have hop : openT T x = (b0 || (b1 && (b2 || b3))) := by
      unfold openT
      rw [hxf, hb0, hb1, hb2, show decide (T ≤ x.to_) = b3 from hb3]
    generalize openT T x = ot at hop hsn
    have HSN := Lib.hid hsn
    clear hsn hcxa hx hxf
    generalize hF0 : (CC.take j).filter (openT T) = F0 at *
    generalize hF1 : (CC.take (j + 1)).filter (openT T) = F1 at *
    have HF0 := Lib.hid hF0
    have HF1 := Lib.hid hF1
    clear hF0 hF1
    go_upto_region 13 with fail
    go_cut [75] (fun u wx => u = .bool ot ∧ wx = WO)
    case first =>
      clear HSN HF0 HF1
      refine wl_region ?_
      try dsimp only [List.append]
      cases b0 with
      | true =>
        refine wl_do (some 48) (.int .i64 (j : Int)) rfl (by kernel_rfl) (by kernel_rfl) ?_
        refine wl_do (some 49) (.bool true) rfl (by kernel_rfl) (rb_eqlI (k :=  (j : Int)) (l :=  0) rfl (by kernel_rfl) (by kernel_rfl) hb0) ?_
        refine wl_many 26 _ [((some 50), .bool true), ((some 51), undef), ((some 52), undef), ((some 53), undef), ((some 54), undef), ((some 55), undef), ((some 56), undef), ((some 57), undef), ((some 58), undef), ((some 59), undef), ((some 60), undef), ((some 61), undef), ((some 62), undef), ((some 63), undef), ((some 64), undef), ((some 65), undef), ((some 66), undef), ((some 67), undef), ((some 68), undef), ((some 69), undef), ((some 70), undef), ((some 71), undef), ((some 72), undef), ((some 73), undef), ((some 74), undef), ((some 75), .bool true)] rfl (by kernel_rfl) ?_
        refine wl_nil ?_
        try simp only [putAll, Act.put, List.setIfInBounds_toArray, List.set_cons_zero, List.set_cons_succ]
        try go_wp2
        go_meet
        exact ⟨by rw [hop]; rfl, rfl⟩
      | false =>
      cases b1 with
      | false =>
        refine wl_do (some 48) (.int .i64 (j : Int)) rfl (by kernel_rfl) (by kernel_rfl) ?_
        refine wl_do (some 49) (.bool false) rfl (by kernel_rfl) (rb_eqlI (k :=  (j : Int)) (l :=  0) rfl (by kernel_rfl) (by kernel_rfl) hb0) ?_
        refine wl_do (some 50) (.bool false) rfl (by kernel_rfl) (by kernel_rfl) ?_
        refine wl_do (some 51) (.slice (some ⟨bc, oc, none⟩) CC.length cc) rfl (by kernel_rfl) (by kernel_rfl) ?_
        refine wl_do (some 52) (.int .i64 (j : Int)) rfl (by kernel_rfl) (by kernel_rfl) ?_
        refine wl_do (some 53) (.pointer (some ⟨bc, oc + j * 6, none⟩)) rfl (by kernel_rfl) (by go_simp) ?_
        refine wl_do (some 54) (.pointer (some ⟨bc, oc + j * 6 + 3, none⟩)) rfl (by kernel_rfl) (by kernel_rfl) ?_
        refine wl_do (some 55) (.int .i64 x.from_) rfl (by kernel_rfl) (rl_int rfl (by kernel_rfl) p3) ?_
        refine wl_do (some 56) (.int .i64 T) rfl (by kernel_rfl) (by kernel_rfl) ?_
        refine wl_do (some 57) (.bool false) rfl (by kernel_rfl) (rb_lssI (k :=  x.from_) (l :=  T) rfl (by kernel_rfl) (by kernel_rfl) hb1) ?_
        refine wl_many 18 _ [((some 58), .bool false), ((some 59), undef), ((some 60), undef), ((some 61), undef), ((some 62), undef), ((some 63), undef), ((some 64), undef), ((some 65), undef), ((some 66), undef), ((some 67), undef), ((some 68), undef), ((some 69), undef), ((some 70), undef), ((some 71), undef), ((some 72), undef), ((some 73), undef), ((some 74), .bool false), ((some 75), .bool false)] rfl (by kernel_rfl) ?_
        refine wl_nil ?_
        try simp only [putAll, Act.put, List.setIfInBounds_toArray, List.set_cons_zero, List.set_cons_succ]
        try go_wp2
        go_meet
        exact ⟨by rw [hop]; rfl, rfl⟩
      | true =>
      cases b2 with
      | true =>
        refine wl_do (some 48) (.int .i64 (j : Int)) rfl (by kernel_rfl) (by kernel_rfl) ?_
        refine wl_do (some 49) (.bool false) rfl (by kernel_rfl) (rb_eqlI (k :=  (j : Int)) (l :=  0) rfl (by kernel_rfl) (by kernel_rfl) hb0) ?_
        refine wl_do (some 50) (.bool false) rfl (by kernel_rfl) (by kernel_rfl) ?_
        refine wl_do (some 51) (.slice (some ⟨bc, oc, none⟩) CC.length cc) rfl (by kernel_rfl) (by kernel_rfl) ?_
        refine wl_do (some 52) (.int .i64 (j : Int)) rfl (by kernel_rfl) (by kernel_rfl) ?_
        refine wl_do (some 53) (.pointer (some ⟨bc, oc + j * 6, none⟩)) rfl (by kernel_rfl) (by go_simp) ?_
        refine wl_do (some 54) (.pointer (some ⟨bc, oc + j * 6 + 3, none⟩)) rfl (by kernel_rfl) (by kernel_rfl) ?_
        refine wl_do (some 55) (.int .i64 x.from_) rfl (by kernel_rfl) (rl_int rfl (by kernel_rfl) p3) ?_
        refine wl_do (some 56) (.int .i64 T) rfl (by kernel_rfl) (by kernel_rfl) ?_
        refine wl_do (some 57) (.bool true) rfl (by kernel_rfl) (rb_lssI (k :=  x.from_) (l :=  T) rfl (by kernel_rfl) (by kernel_rfl) hb1) ?_
        refine wl_do (some 58) (.bool true) rfl (by kernel_rfl) (by kernel_rfl) ?_
        refine wl_do (some 59) (.slice (some ⟨bc, oc, none⟩) CC.length cc) rfl (by kernel_rfl) (by kernel_rfl) ?_
        refine wl_do (some 60) (.int .i64 (j : Int)) rfl (by kernel_rfl) (by kernel_rfl) ?_
        refine wl_do (some 61) (.pointer (some ⟨bc, oc + j * 6, none⟩)) rfl (by kernel_rfl) (by go_simp) ?_
        refine wl_do (some 62) (.pointer (some ⟨bc, oc + j * 6 + 4, none⟩)) rfl (by kernel_rfl) (by kernel_rfl) ?_
        refine wl_do (some 63) (.int .i64 x.to_) rfl (by kernel_rfl) (rl_int rfl (by kernel_rfl) p4) ?_
        refine wl_do (some 64) (.bool true) rfl (by kernel_rfl) (rb_lssI (k :=  x.to_) (l :=  0) rfl (by kernel_rfl) (by kernel_rfl) hb2) ?_
        refine wl_many 11 _ [((some 65), .bool true), ((some 66), undef), ((some 67), undef), ((some 68), undef), ((some 69), undef), ((some 70), undef), ((some 71), undef), ((some 72), undef), ((some 73), .bool true), ((some 74), .bool true), ((some 75), .bool true)] rfl (by kernel_rfl) ?_
        refine wl_nil ?_
        try simp only [putAll, Act.put, List.setIfInBounds_toArray, List.set_cons_zero, List.set_cons_succ]
        try go_wp2
        go_meet
        exact ⟨by rw [hop]; rfl, rfl⟩
      | false =>
      cases b3 with
      | true =>
        refine wl_do (some 48) (.int .i64 (j : Int)) rfl (by kernel_rfl) (by kernel_rfl) ?_
        refine wl_do (some 49) (.bool false) rfl (by kernel_rfl) (rb_eqlI (k :=  (j : Int)) (l :=  0) rfl (by kernel_rfl) (by kernel_rfl) hb0) ?_
        refine wl_do (some 50) (.bool false) rfl (by kernel_rfl) (by kernel_rfl) ?_
        refine wl_do (some 51) (.slice (some ⟨bc, oc, none⟩) CC.length cc) rfl (by kernel_rfl) (by kernel_rfl) ?_
        refine wl_do (some 52) (.int .i64 (j : Int)) rfl (by kernel_rfl) (by kernel_rfl) ?_
        refine wl_do (some 53) (.pointer (some ⟨bc, oc + j * 6, none⟩)) rfl (by kernel_rfl) (by go_simp) ?_
        refine wl_do (some 54) (.pointer (some ⟨bc, oc + j * 6 + 3, none⟩)) rfl (by kernel_rfl) (by kernel_rfl) ?_
        refine wl_do (some 55) (.int .i64 x.from_) rfl (by kernel_rfl) (rl_int rfl (by kernel_rfl) p3) ?_
        refine wl_do (some 56) (.int .i64 T) rfl (by kernel_rfl) (by kernel_rfl) ?_
        refine wl_do (some 57) (.bool true) rfl (by kernel_rfl) (rb_lssI (k :=  x.from_) (l :=  T) rfl (by kernel_rfl) (by kernel_rfl) hb1) ?_
        refine wl_do (some 58) (.bool true) rfl (by kernel_rfl) (by kernel_rfl) ?_
        refine wl_do (some 59) (.slice (some ⟨bc, oc, none⟩) CC.length cc) rfl (by kernel_rfl) (by kernel_rfl) ?_
        refine wl_do (some 60) (.int .i64 (j : Int)) rfl (by kernel_rfl) (by kernel_rfl) ?_
        refine wl_do (some 61) (.pointer (some ⟨bc, oc + j * 6, none⟩)) rfl (by kernel_rfl) (by go_simp) ?_
        refine wl_do (some 62) (.pointer (some ⟨bc, oc + j * 6 + 4, none⟩)) rfl (by kernel_rfl) (by kernel_rfl) ?_
        refine wl_do (some 63) (.int .i64 x.to_) rfl (by kernel_rfl) (rl_int rfl (by kernel_rfl) p4) ?_
        refine wl_do (some 64) (.bool false) rfl (by kernel_rfl) (rb_lssI (k :=  x.to_) (l :=  0) rfl (by kernel_rfl) (by kernel_rfl) hb2) ?_
        refine wl_do (some 65) (.bool false) rfl (by kernel_rfl) (by kernel_rfl) ?_
        refine wl_do (some 66) (.slice (some ⟨bc, oc, none⟩) CC.length cc) rfl (by kernel_rfl) (by kernel_rfl) ?_
        refine wl_do (some 67) (.int .i64 (j : Int)) rfl (by kernel_rfl) (by kernel_rfl) ?_
        refine wl_do (some 68) (.pointer (some ⟨bc, oc + j * 6, none⟩)) rfl (by kernel_rfl) (by go_simp) ?_
        refine wl_do (some 69) (.pointer (some ⟨bc, oc + j * 6 + 4, none⟩)) rfl (by kernel_rfl) (by kernel_rfl) ?_
        refine wl_do (some 70) (.int .i64 x.to_) rfl (by kernel_rfl) (rl_int rfl (by kernel_rfl) p4) ?_
        refine wl_do (some 71) (.int .i64 T) rfl (by kernel_rfl) (by kernel_rfl) ?_
        refine wl_do (some 72) (.bool true) rfl (by kernel_rfl) (rb_geqH (k :=  x.to_) (l :=  T) rfl (by kernel_rfl) (by kernel_rfl) hb3) ?_
        refine wl_many 3 _ [((some 73), .bool true), ((some 74), .bool true), ((some 75), .bool true)] rfl (by kernel_rfl) ?_
        refine wl_nil ?_
        try simp only [putAll, Act.put, List.setIfInBounds_toArray, List.set_cons_zero, List.set_cons_succ]
        try go_wp2
        go_meet
        exact ⟨by rw [hop]; rfl, rfl⟩
      | false =>
        refine wl_do (some 48) (.int .i64 (j : Int)) rfl (by kernel_rfl) (by kernel_rfl) ?_
        refine wl_do (some 49) (.bool false) rfl (by kernel_rfl) (rb_eqlI (k :=  (j : Int)) (l :=  0) rfl (by kernel_rfl) (by kernel_rfl) hb0) ?_
        refine wl_do (some 50) (.bool false) rfl (by kernel_rfl) (by kernel_rfl) ?_
        refine wl_do (some 51) (.slice (some ⟨bc, oc, none⟩) CC.length cc) rfl (by kernel_rfl) (by kernel_rfl) ?_
        refine wl_do (some 52) (.int .i64 (j : Int)) rfl (by kernel_rfl) (by kernel_rfl) ?_
        refine wl_do (some 53) (.pointer (some ⟨bc, oc + j * 6, none⟩)) rfl (by kernel_rfl) (by go_simp) ?_
        refine wl_do (some 54) (.pointer (some ⟨bc, oc + j * 6 + 3, none⟩)) rfl (by kernel_rfl) (by kernel_rfl) ?_
        refine wl_do (some 55) (.int .i64 x.from_) rfl (by kernel_rfl) (rl_int rfl (by kernel_rfl) p3) ?_
        refine wl_do (some 56) (.int .i64 T) rfl (by kernel_rfl) (by kernel_rfl) ?_
        refine wl_do (some 57) (.bool true) rfl (by kernel_rfl) (rb_lssI (k :=  x.from_) (l :=  T) rfl (by kernel_rfl) (by kernel_rfl) hb1) ?_
        refine wl_do (some 58) (.bool true) rfl (by kernel_rfl) (by kernel_rfl) ?_
        refine wl_do (some 59) (.slice (some ⟨bc, oc, none⟩) CC.length cc) rfl (by kernel_rfl) (by kernel_rfl) ?_
        refine wl_do (some 60) (.int .i64 (j : Int)) rfl (by kernel_rfl) (by kernel_rfl) ?_
        refine wl_do (some 61) (.pointer (some ⟨bc, oc + j * 6, none⟩)) rfl (by kernel_rfl) (by go_simp) ?_
        refine wl_do (some 62) (.pointer (some ⟨bc, oc + j * 6 + 4, none⟩)) rfl (by kernel_rfl) (by kernel_rfl) ?_
        refine wl_do (some 63) (.int .i64 x.to_) rfl (by kernel_rfl) (rl_int rfl (by kernel_rfl) p4) ?_
        refine wl_do (some 64) (.bool false) rfl (by kernel_rfl) (rb_lssI (k :=  x.to_) (l :=  0) rfl (by kernel_rfl) (by kernel_rfl) hb2) ?_
        refine wl_do (some 65) (.bool false) rfl (by kernel_rfl) (by kernel_rfl) ?_
        refine wl_do (some 66) (.slice (some ⟨bc, oc, none⟩) CC.length cc) rfl (by kernel_rfl) (by kernel_rfl) ?_
        refine wl_do (some 67) (.int .i64 (j : Int)) rfl (by kernel_rfl) (by kernel_rfl) ?_
        refine wl_do (some 68) (.pointer (some ⟨bc, oc + j * 6, none⟩)) rfl (by kernel_rfl) (by go_simp) ?_
        refine wl_do (some 69) (.pointer (some ⟨bc, oc + j * 6 + 4, none⟩)) rfl (by kernel_rfl) (by kernel_rfl) ?_
        refine wl_do (some 70) (.int .i64 x.to_) rfl (by kernel_rfl) (rl_int rfl (by kernel_rfl) p4) ?_
        refine wl_do (some 71) (.int .i64 T) rfl (by kernel_rfl) (by kernel_rfl) ?_
        refine wl_do (some 72) (.bool false) rfl (by kernel_rfl) (rb_geqH (k :=  x.to_) (l :=  T) rfl (by kernel_rfl) (by kernel_rfl) hb3) ?_
        refine wl_many 3 _ [((some 73), .bool false), ((some 74), .bool false), ((some 75), .bool false)] rfl (by kernel_rfl) ?_
        refine wl_nil ?_
        try simp only [putAll, Act.put, List.setIfInBounds_toArray, List.set_cons_zero, List.set_cons_succ]
        try go_wp2
        go_meet
        exact ⟨by rw [hop]; rfl, rfl⟩
    case rest =>
    obtain ⟨rfl, hwe⟩ := hcut
    subst hwe
    obtain ⟨WO, hWO⟩ : ∃ W, W = wc := ⟨_, rfl⟩
    subst hWO
    clear hop p0 p3 p4 hb0 hb1 hb2 hb3
    cases ot with
    | false =>
      replace HSN : Hid (F1 = F0) := HSN
      go_wp2
      go_roundw
      case rel => exact ⟨j + 1, by go_num, by omega, HB, by rw [HF1.out, HSN.out]; exact HO⟩
      case measure => simp [intOf]; omega
    | true =>
      replace HSN : Hid (F1 = F0 ++ [x]) := HSN
      go_upto_region 14 with fail
      go_wp2_with (first | (refine loadSP (.tmp 79) rfl rfl bc (oc + j * 6) (by exact rfl) x HCX.out ?_) | (at_builtin; go_loud (refine wpl_app WO rfl (.tmp 76) (.tmp 81) 72 rfl w4.heap.size elSP u11 F0.length _ rfl HO.out [.int .i64 x.frame, .int .i64 x.fn, .int .i64 x.by_, .int .i64 x.from_, .int .i64 x.to_, .int .i64 x.answer] rfl rfl (by simp [Value.oneCell']) (by simp only [maxLen]; omega) (by omega) HB.out.size ?_); intro g6 cap6 w6 ho6 hg6 _; have HO6 := Lib.hid ho6; have HG6 := Lib.hid hg6; clear ho6 hg6))
      have HB6 : Hid (Bel w4 w6) := Lib.hid (Below.grown HB.out HG6.out HB.out.size (fun k hk => (HO.out.lt k hk).1))
      have HO7 : Hid (w6.ownsRow w4.heap.size SPT 6 (.slice (some ⟨g6, 0, none⟩) (F0.length + 1) cap6) F1.length (spC F1)) := Lib.hid (by
        rw [HSN.out, List.length_append]
        unfold spC
        rw [List.flatMap_append, List.flatMap_cons, List.flatMap_nil, List.append_nil]
        exact HO6.out)
      clear HO6 HG6 HO HSN
      go_roundw
      case rel => exact ⟨j + 1, by go_num, by omega, HB6, by rw [HF1.out]; exact HO7⟩
      case measure => simp [intOf]; omega
end Go.Proofs.Ytgkpplbomciehaa
