/- WhenSpans answers true: the walk. Each lemma states its own conditions. -/
import Derived.Test.YtegknpffiaeohaaWhenE
namespace Go.Proofs.Ytegknpffiaeohaa
open Go.RowKit

theorem apart_get : ∀ {c : List (Nat × Nat)} {m n k : Nat} {x : Nat × Nat}, Apart m n c → c[k]? = some x → m ≤ x.1 ∧ x.1 < x.2 ∧ x.2 ≤ n
  | [], _, _, _, _, _, h => by simp at h
  | y :: ys, m, n, 0, x, ⟨a, b, c, _⟩, h => by
    simp only [List.getElem?_cons_zero, Option.some.injEq] at h
    subst h
    exact ⟨a, b, c⟩
  | y :: ys, m, n, k + 1, x, ⟨a, b, _, d⟩, h => by
    obtain ⟨h1, h2, h3⟩ := apart_get (k := k) d (by simpa using h)
    exact ⟨by omega, h2, h3⟩
theorem apart_next : ∀ {c : List (Nat × Nat)} {m n k : Nat} {x y : Nat × Nat}, Apart m n c → c[k]? = some x → c[k + 1]? = some y → x.2 < y.1
  | [], _, _, _, _, _, _, h, _ => by simp at h
  | z :: zs, m, n, 0, x, y, ⟨_, _, _, d⟩, h, h' => by
    simp only [List.getElem?_cons_zero, Option.some.injEq] at h
    subst h
    have := apart_get (k := 0) d (by simpa using h')
    omega
  | z :: zs, m, n, k + 1, x, y, ⟨_, _, _, d⟩, h, h' => apart_next (k := k) d (by simpa using h) (by simpa using h')
theorem segs_take {a b : Int} {c : List (Nat × Nat)} {k : Nat} {x : Nat × Nat} (h : c[k]? = some x) : segs a b (c.take (k + 1)) = segs a b (c.take k) ++ segI (max x.1 a) (min x.2 b) := by
  rw [List.take_add_one, h]
  exact segs_snoc a b _ x
theorem segs_take_le (a b : Int) (c : List (Nat × Nat)) (k : Nat) (hc : clampL c = c) : (segs a b (c.take k)).length ≤ k * 4000 := by
  have h := segs_length a b (c.take k)
  have e : clampL (c.take k) = c.take k := by unfold clampL at *; rw [List.map_take, hc]
  rw [e] at h
  exact Nat.le_trans h (Nat.mul_le_mul_right _ (List.length_take_le k c))

set_option maxRecDepth 20000 in
set_option maxHeartbeats 2000000 in
theorem wSpans_any (q : Ask) (val v : Value) (l : List Ev) (w : World) (h : AskV w q val) (hv : Sl evR w v l) (hl : ok64 l.length) :
    Calls Try.prog 8 #[val, v] w fun r w' => r = .returned (.bool true) ∧ Bel w w' := by
  have hl' := hl
  unfold ok64 at hl'
  have HT := Lib.hid (fun val v W h hv => times_any q val v l 0 l.length W h hv hl (by omega) (by omega))
  have HS := Lib.hid (fun val v W h hv => spans_any q val v l W h hv hl)
  have hL4 := holdL_length q l
  have hLN := holdL_nil (q := q) (l := l)
  generalize holdErr q l.length = E at *
  generalize holdL q l = L at *
  have hLL : L.length ≤ l.length := by
    by_cases hE : E = 0
    · rw [hL4.2 hE]; exact Nat.le_refl _
    · rw [hLN hE]; simp
  have hL5 := hL4.1
  clear hL4 hLN
  have hap := spans_apart L
  have hts : timesL L 0 l.length L.length = segs 0 l.length (spansL L) := (times_spans L 0 l.length).symm
  rw [hts] at HT
  have hcl := clampL_spans hL5
  have hspl := spans_length L
  generalize spansL L = S at *
  have HAP := Lib.hid hap
  have HCL := Lib.hid hcl
  clear hap hts hcl
  have HQ := Lib.hid h
  have HV := Lib.hid hv
  obtain ⟨v', rfl, hsl⟩ := h
  obtain ⟨A, c, rfl, -⟩ := hsl
  obtain ⟨LA, lc, rfl, -⟩ := hv
  go_enter Try.func8, Try.ntmps8
  go_wp2_with fail
  refine (whenBegun_any _).mono ?_
  rintro r w1 ⟨rfl, hb1⟩
  have HB1 := Lib.hid (((Bel.rfl_ w).al _).tr hb1)
  have h1 := (Blk.new w 37 #[.int .i64 q.kind, .int .i64 q.n, .slice A q.args.length c]).keep hb1
  have z0 := h1.cell (i := 0) rfl
  have z1 := h1.cell (i := 1) rfl
  have z2 := h1.cell (i := 2) rfl
  have HZ := Lib.hid h1
  clear hb1 h1
  go_wp2_with fail
  refine (HT.out _ _ _ (HQ.out.keep HB1.out) (HV.out.keep HB1.out)).mono ?_
  rintro r w2 ⟨ua, rfl, hua, hb2⟩
  have HB2 := Lib.hid (HB1.out.tr hb2)
  have HZ := Lib.hid (HZ.out.keep hb2)
  have z0 := HZ.out.cell (i := 0) rfl
  have z1 := HZ.out.cell (i := 1) rfl
  have z2 := HZ.out.cell (i := 2) rfl
  have HUA := Lib.hid hua
  clear hua hb2
  go_wp2_with fail
  refine (HS.out _ _ _ (HQ.out.keep HB2.out) (HV.out.keep HB2.out)).mono ?_
  rintro r w3 ⟨uc, rfl, huc, hb3⟩
  have HB3 := Lib.hid (HB2.out.tr hb3)
  have HUA := Lib.hid (HUA.out.keep hb3)
  have HUC := Lib.hid huc
  clear huc hb3 z0 z1 z2
  obtain ⟨AC, cC, rfl, _, _, hAC⟩ := id HUC.out
  have HAC := Lib.hid hAC
  clear hAC
  go_wp2
  go_loopw [9, 10, 11] (fun al la i wr => ∃ (k n : Nat) (y : Int), i = .int .i64 k ∧ la = .int .i64 y ∧ k ≤ S.length ∧ Hid (y < 0 ∧ k = 0 ∨ ∃ x, S[k - 1]? = some x ∧ y = x.2 ∧ 0 < k) ∧ Hid (n = (segs 0 l.length (S.take k)).length) ∧
    Hid (wr.ownsRow w3.heap.size 3 1 al n ((segs 0 l.length (S.take k)).map (Value.int .i64))) ∧ Hid (Bel w3 wr)) (fun _ _ i _ => S.length - (intOf i).toNat)
  case atStart => exact ⟨0, 0, -1, rfl, rfl, by omega, Lib.hid (.inl ⟨by omega, rfl⟩), Lib.hid rfl, World.ownsRow_nil _ _ _ _, Bel.rfl_ _⟩
  case round =>
    obtain ⟨k, n, y, rfl, rfl, hk, HY, HN, HO, HB⟩ := hrel
    by_cases hlt : k < S.length
    · obtain ⟨⟨p, e⟩, hx⟩ : ∃ x, S[k]? = some x := ⟨_, List.getElem?_eq_getElem hlt⟩
      obtain ⟨b, o, rfl, hcc⟩ := HAC.out (by omega)
      obtain ⟨y0, y1⟩ := spanR.cells hcc hx
      dsimp only at y0 y1
      have hg := apart_get HAP.out hx
      dsimp only at hg
      have hle : y < (p : Int) := by
        rcases HY.out with ⟨h1, _⟩ | ⟨x', h1, h2, h3⟩
        · omega
        · have := apart_next (k := k - 1) HAP.out h1 (by rw [Nat.sub_add_cancel h3]; exact hx)
          dsimp only at this
          omega
      have hpe : p < e := hg.2.1
      have hel : e ≤ l.length := by omega
      have hST := segs_take (a := 0) (b := l.length) hx
      have HST : Hid (segs 0 l.length (S.take (k + 1)) = segs 0 l.length (S.take k) ++ segI p e) := Lib.hid (by rw [hST]; congr 2 <;> dsimp only <;> omega)
      have HY' : Hid ((e : Int) < 0 ∧ k + 1 = 0 ∨ ∃ x, S[k + 1 - 1]? = some x ∧ (e : Int) = x.2 ∧ 0 < k + 1) := Lib.hid (.inr ⟨(p, e), by rw [Nat.add_sub_cancel]; exact hx, rfl, by omega⟩)
      have hnl : n ≤ 16000000 := by have h1 := HN.out; have h2 := segs_take_le 0 l.length S k HCL.out; omega
      have he4 : e ≤ 4000 := by omega
      generalize segs 0 l.length (S.take k) = S0 at *
      have hy0 := HB.out.cell y0
      have hy1 := HB.out.cell y1
      have HC0 := Lib.hid y0
      have HC1 := Lib.hid y1
      have hn1 : decide ((p : Int) ≤ y) = false := decide_eq_false (by omega)
      have hn2 : decide ((e : Int) ≤ (p : Int)) = false := decide_eq_false (by omega)
      have hn3 : decide ((l.length : Int) < (e : Int)) = false := decide_eq_false (by omega)
      have hn4 : decide (e ≤ p) = false := decide_eq_false (by omega)
      have hn5 : decide (l.length < e) = false := decide_eq_false (by omega)
      clear hx hcc hST hg HAC y0 y1
      go_wp2
      go_quiet (fail)
      go_wp2
      go_loopw [9, 12] (fun al i wx => ∃ (t m : Nat), i = .int .i64 t ∧ p ≤ t ∧ t ≤ e ∧ Hid (m = (S0 ++ segI p t).length) ∧ Hid (wx.ownsRow w3.heap.size 3 1 al m ((S0 ++ segI p t).map (Value.int .i64))) ∧ Hid (Bel w3 wx)) (fun _ i _ => e - (intOf i).toNat)
      case atStart => exact ⟨p, n, rfl, Nat.le_refl _, by omega, Lib.hid (by rw [segI_nil (Int.le_refl _), List.append_nil]; exact HN.out), (by unfold Hid; rw [segI_nil (Int.le_refl _), List.append_nil]; exact own_drew HO.out _), HB.out.drN _⟩
      case round =>
        obtain ⟨t, m, rfl, hpt, hte, HM, HO2, HBX⟩ := hrel
        have x0 := HBX.out.cell HC0.out
        have x1 := HBX.out.cell HC1.out
        by_cases hlt2 : t < e
        · have HSS : Hid (S0 ++ segI p ((t + 1 : Nat) : Int) = (S0 ++ segI p t) ++ [(t : Int)]) := Lib.hid (by rw [show ((t + 1 : Nat) : Int) = (t : Int) + 1 from rfl, segI_succ (by omega), List.append_assoc])
          have hm2 : m ≤ 16004000 := by have h1 := HM.out; rw [List.length_append, segI_length] at h1; have h2 := HN.out; omega
          go_wp2_with (at_builtin; go_loud (refine wpl_app wr rfl (.tmp 87) (.tmp 89) 39 rfl w3.heap.size elInt u9 m _ rfl HO2.out [.int .i64 t] rfl rfl (by simp [Value.oneCell']) (by simp only [maxLen]; omega) (by omega) HBX.out.size ?_); intro g cap w4 hown hg4 _; have HO4 := Lib.hid hown; have HB4 := Lib.hid (Below.ofGrown HBX.out HO2.out hg4 (Nat.le_refl _) HBX.out.size); clear hown hg4)
          go_roundw
          case rel => exact ⟨t + 1, m + 1, by go_num, by omega, by omega, Lib.hid (by rw [HSS.out, List.length_append, ← HM.out]; rfl), (by unfold Hid; rw [HSS.out, List.map_append]; exact HO4.out), HB4⟩
          case measure => simp [intOf]; omega
        · obtain rfl : t = e := by omega
          go_wp2
          go_roundw
          case rel => exact ⟨k + 1, m, t, by go_num, rfl, by omega, HY', (by unfold Hid; rw [HST.out]; exact HM.out), (by unfold Hid; rw [HST.out]; exact HO2.out), HBX⟩
          case measure => simp [intOf]; omega
    · have HFIN : Hid (Sl intR wr u9 (segs 0 l.length S)) := Lib.hid (by
        have h1 := HO.out
        have h2 := HN.out
        rw [List.take_of_length_le (by omega)] at h1 h2
        exact Sl.own_int h1 h2)
      have HUA := Lib.hid (HUA.out.keep HB.out)
      have HXL : Hid (ok64 (segs 0 l.length S).length) := Lib.hid (by
        have h2 := segs_take_le 0 l.length S S.length HCL.out
        rw [List.take_length] at h2
        unfold ok64
        omega)
      go_wp2_with fail
      refine (sameInts_any _ _ _ _ _ HUA.out HFIN.out HXL.out HXL.out).mono ?_
      rintro r w5 ⟨rfl, hb5⟩
      rw [decide_eq_true (rfl : segs 0 l.length S = segs 0 l.length S)]
      go_wp2
      go_ret
      exact ⟨rfl, (HB3.out.tr HB.out).tr hb5⟩

end Go.Proofs.Ytegknpffiaeohaa
