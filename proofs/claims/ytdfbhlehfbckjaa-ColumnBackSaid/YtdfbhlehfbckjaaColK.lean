/- The program's decoding computes what is decoded. Each lemma states its own conditions. -/
import Derived.Test.YtdfbhlehfbckjaaColJ
namespace Go.Proofs.Ytdfbhlehfbckjaa
open Go.RowKit

theorem Bel.ofGrown {w a b : World} {g : Nat} (h : Bel w a) (hg : a.grownBy b (some g)) (hwg : w.heap.size ≤ g) : Bel w b := Below.grown h hg h.size (fun k hk => by
  have : g = k := by simpa using hk
  omega)

theorem decode_bad (s : ByteArray) (w : World) (hs : ok64 s.size) (hN : natAt s 0 = none) :
    Calls Try.prog 15 #[.string s] w fun r w' => r = .returned (.tuple #[.slice none 0 0, .int .i64 1]) ∧ Bel w w' := by
  have HN := Lib.hid hN; clear hN
  have hr0 : Rd (w.alloc (.cells #[.string s, .int .i64 0, .bool false] 73)) w.heap.size s 0 false := Blk.new _ _ _
  have HR := Lib.hid (rnat_any s 0 w.heap.size _ hs (Nat.zero_le _) hr0); clear hr0
  go_enter Try.func15, Try.ntmps15
  go_wp2_with fail
  refine HR.out.mono ?_
  rintro e w1 ⟨⟨n, q, bad, rfl, hr, hq, hn⟩, hg⟩
  rw [HN.out] at hn
  obtain ⟨rfl, rfl⟩ := hn
  have HB1 := Lib.hid (Bel.ofGrown ((Bel.rfl_ w).al _) hg (Nat.le_refl _))
  obtain ⟨x0, x1, x2, y1, y2⟩ := Rd.go hr
  clear hr hg
  go_wp2
  go_ret2
  exact ⟨rfl, HB1.out⟩

theorem decode_many (s : ByteArray) (many a : Nat) (w : World) (hs : ok64 s.size) (hN : natAt s 0 = some (many, a)) (hm : 4000 < many) :
    Calls Try.prog 15 #[.string s] w fun r w' => r = .returned (.tuple #[.slice none 0 0, .int .i64 2]) ∧ Bel w w' := by
  have HN := Lib.hid hN; clear hN
  have hr0 : Rd (w.alloc (.cells #[.string s, .int .i64 0, .bool false] 73)) w.heap.size s 0 false := Blk.new _ _ _
  have HR := Lib.hid (rnat_any s 0 w.heap.size _ hs (Nat.zero_le _) hr0); clear hr0
  go_enter Try.func15, Try.ntmps15
  go_wp2_with fail
  refine HR.out.mono ?_
  rintro e w1 ⟨⟨n, q, bad, rfl, hr, hq, hn⟩, hg⟩
  rw [HN.out] at hn
  obtain ⟨rfl, rfl, rfl⟩ := hn
  have HB1 := Lib.hid (Bel.ofGrown ((Bel.rfl_ w).al _) hg (Nat.le_refl _))
  obtain ⟨x0, x1, x2, y1, y2⟩ := Rd.go hr
  clear hr hg
  go_wp2
  go_ret2
  exact ⟨rfl, HB1.out⟩

theorem mk_evs (many : Nat) (hm : many ≤ 4000) (w : World) : ∃ arr, (Instr.makeSlice 22 (.int .i64 many) (.int .i64 many)).run Try.prog w = .ok (.slice (some ⟨w.heap.size, 0, none⟩) many many) (w.alloc (.cells arr 58)) ∧ OutOk arr many (fun _ _ => 0) := by
  have h2 : (Try.prog.info? 58).map (fun i => (i.zero, i.size, i.bytes)) = some (some (.agg #[.int .i64 0, .int .i64 0, .int .i64 0, .int .i64 0, .int .i64 0, .int .i64 0]), 6, 48) := by kernel_rfl
  obtain ⟨i, hi, hz0, hz1, hz2⟩ := info_parts h2
  have hr := run_make (P := Try.prog) w 22 58 i _ Try.underlying22 hi hz0 .i64 .i64 many many (by omega) (by omega) (by rw [hz2]; omega) (by omega)
  rw [hz1, Int.toNat_natCast] at hr
  refine ⟨_, hr, size_madeCells _ _, fun x c hx hc => ?_⟩
  unfold madeCells
  rw [Array.getElem?_map, Array.getElem?_range, if_pos (by omega)]
  have : (x * 6 + c) % 6 = c := by omega
  simp only [Value.cells, Option.map_some]
  show some (#[Value.int .i64 0, .int .i64 0, .int .i64 0, .int .i64 0, .int .i64 0, .int .i64 0][(x * 6 + c) % 6]!) = _
  rw [this]
  match c, hc with
  | 0, _ | 1, _ | 2, _ | 3, _ | 4, _ | 5, _ => rfl

theorem ptr_cellO {w : World} {g b o : Nat} (h : Blk w g 67 #[.pointer (some ⟨b, o, none⟩), .pointer (some ⟨b, o + 1, none⟩), .pointer (some ⟨b, o + 2, none⟩), .pointer (some ⟨b, o + 3, none⟩), .pointer (some ⟨b, o + 4, none⟩), .pointer (some ⟨b, o + 5, none⟩)])
    {k : Nat} (hk : k < 6) : w.cell? ⟨g, k, none⟩ = some (.pointer (some ⟨b, o + k, none⟩)) := by
  match k, hk with
  | 0, _ | 1, _ | 2, _ | 3, _ | 4, _ | 5, _ => exact h.cell rfl

/-- where the decoding stands: k columns, and j numbers of the next one -/
def DSt (s : ByteArray) (a many g og : Nat) (wr : World) (k j : Nat) (x : Int) : Prop := ∃ l e arr, rd s a (k * many + j) = some (l, e) ∧ x = colSum l many k ∧ Rd wr g s e false ∧ Blk wr og 58 arr ∧ OutOk arr many (partF l many k j)
theorem DSt.zero {s : ByteArray} {a many g og : Nat} {wr : World} {k : Nat} {x : Int} (ha : a ≤ s.size) : DSt s a many g og wr k 0 x → x = 0 := fun ⟨l, e, arr, h1, h2, _⟩ => by
  rw [h2, colSum_zero]
  exact (rd_facts ha _ _ _ h1).1
theorem DSt.next {s : ByteArray} {a many g og : Nat} {wr : World} {k : Nat} {x : Int} (ha : a ≤ s.size) : DSt s a many g og wr k many x → DSt s a many g og wr (k + 1) 0 0 := fun ⟨l, e, arr, h1, h2, h3, h4, h5⟩ => by
  have h6 : (k + 1) * many + 0 = k * many + many := by rw [Nat.add_mul, Nat.one_mul, Nat.add_zero]
  have h7 : rd s a ((k + 1) * many + 0) = some (l, e) := by rw [h6]; exact h1
  refine ⟨l, e, arr, h7, ?_, h3, h4, partF_end h5⟩
  rw [colSum_zero]
  exact (rd_facts ha _ _ _ h7).1
theorem decOf_none {s : ByteArray} {many a m : Nat} (hN : natAt s 0 = some (many, a)) (hm : many ≤ 4000) (h : rd s a m = none) (hle : m ≤ 6 * many) : decOf s = (1, []) := by
  obtain ⟨d, hd⟩ := Nat.le.dest hle
  have := rd_up h d
  rw [hd] at this
  unfold decOf
  rw [hN]
  simp only [this]
  rw [if_neg (by omega)]

set_option maxRecDepth 20000 in
set_option maxHeartbeats 1000000 in
theorem decode_ok (s : ByteArray) (many a : Nat) (w : World) (hs : ok64 s.size) (hN : natAt s 0 = some (many, a)) (hm : many ≤ 4000) :
    Calls Try.prog 15 #[.string s] w fun r w' => ∃ v, r = .returned (.tuple #[v, .int .i64 (decOf s).1]) ∧ Sl evR w' v (decOf s).2 ∧ Bel w w' := by
  have HN := Lib.hid hN; clear hN
  have hr0 : Rd (w.alloc (.cells #[.string s, .int .i64 0, .bool false] 73)) w.heap.size s 0 false := Blk.new _ _ _
  have HR := Lib.hid (rnat_any s 0 w.heap.size _ hs (Nat.zero_le _) hr0); clear hr0
  go_enter Try.func15, Try.ntmps15
  go_wp2_with fail
  refine HR.out.mono ?_
  rintro e w1 ⟨⟨n, q, bad, rfl, hr, hq, hn⟩, hg⟩
  rw [HN.out] at hn
  obtain ⟨rfl, rfl, rfl⟩ := hn
  have HB1 := Lib.hid (Bel.ofGrown ((Bel.rfl_ w).al _) hg (Nat.le_refl _))
  obtain ⟨x0, x1, x2, y1, y2⟩ := Rd.go hr
  have HR1 := Lib.hid hr
  clear hr hg HR
  obtain ⟨arr, hmk, hout⟩ := mk_evs many hm w1
  obtain ⟨hna, hap, has⟩ := natAt_lt HN.out
  have HGG : Hid (w.heap.size < w1.heap.size) := Lib.hid (by have := HR1.out.lt; exact this)
  have HD0 : Hid (DSt s q many w.heap.size w1.heap.size (w1.alloc (.cells arr 58)) 0 0 0) := Lib.hid ⟨[], q, arr, by simp [rd], by simp [colSum], HR1.out.keep ((Bel.rfl_ w1).al _), Blk.new _ _ _, hout.1, fun i c hi hc => by rw [hout.2 i c hi hc]; unfold partF; rw [if_neg (by omega)]⟩
  have HB2 := Lib.hid (HB1.out.al (.cells arr 58))
  clear hout HB1
  go_wp2_with fail
  clear hmk x0 x1 x2 y1 y2
  generalize hog : w1.heap.size = og at HD0 HGG ⊢
  generalize hgg : w.heap.size = g at HD0 HGG ⊢
  have HG : Hid (w.heap.size = g) := Lib.hid hgg
  clear hog hgg HR1
  have HRA := Lib.hid has
  go_loopw [23] (fun i wr => ∃ k : Nat, k ≤ 6 ∧ i = .int .i64 k ∧ Hid (DSt s q many g og wr k 0 0) ∧ Hid (Bel w wr)) (fun i _ => 6 - (intOf i).toNat)
  case atStart => exact ⟨0, by omega, rfl, HD0, HB2⟩
  case round =>
    obtain ⟨k, hk, rfl, HD, HB⟩ := hrel
    clear HD0 HB2
    by_cases hk6 : k < 6
    · have hdk : decide ((k : Int) < 6) = true := decide_eq_true (by omega)
      go_wp2
      go_loopw [8, 28] (fun u i wr => ∃ (j : Nat) (x : Int), j ≤ many ∧ i = .int .i64 j ∧ u = .int .i64 x ∧ Hid (DSt s q many g og wr k j x) ∧ Hid (Bel w wr)) (fun _ i _ => many - (intOf i).toNat)
      case atStart => exact ⟨0, 0, by omega, rfl, rfl, HD, HB⟩
      case round =>
        clear HD HB
        obtain ⟨j, x, hj, rfl, rfl, HD, HB⟩ := hrel
        by_cases hlt : j < many
        · obtain ⟨l, e, arr, hrd, hx, hR, hA, hO⟩ := HD.out
          obtain ⟨hl, hes, hlx⟩ := rd_facts HRA.out _ _ _ hrd
          have hsum := colSum_le hlx hl (by omega)
          rw [← hx] at hsum
          obtain ⟨hs1, hs2⟩ := hsum
          have HRN := Lib.hid (rnum_any s e g wr hs hes hR)
          have HX := Lib.hid hx; have HRD := Lib.hid hrd; have HAA := Lib.hid hA; have HO := Lib.hid hO; have HLX := Lib.hid hlx; have HL := Lib.hid hl
          clear hx hrd hR hA hO hlx hl
          go_wp2_with fail
          refine HRN.out.mono ?_
          rintro e' w3 ⟨⟨v, q2, bad, rfl, hr3, hq3, hn3⟩, hg3⟩
          have HB3 := Lib.hid (Bel.ofGrown HB.out hg3 (Nat.le_of_eq HG.out))
          have HA3 : Hid (Blk w3 og 58 arr) := Lib.hid (HAA.out.grown hg3 (by have := HGG.out; simp; omega))
          obtain ⟨x0, x1, x2, y1, y2⟩ := Rd.go hr3
          have HR3 := Lib.hid hr3
          clear hg3 hr3 HRN HAA
          cases hne : natAt s e with
          | none =>
            rw [hne] at hn3
            obtain ⟨rfl, rfl⟩ := hn3
            have HE : Hid (decOf s = (1, [])) := Lib.hid (decOf_none HN.out hm (rd_none HRD.out hne) (by have := Nat.mul_le_mul_right many (show k + 1 ≤ 6 by omega); rw [Nat.add_mul] at this; omega))
            clear hne
            go_wp2
            go_ret2
            refine ⟨.slice none 0 0, by rw [HE.out]; rfl, ?_, HB3.out⟩
            rw [HE.out]
            exact Sl.nil_ _ _
          | some nt =>
            obtain ⟨n, to⟩ := nt
            rw [hne] at hn3
            obtain ⟨rfl, rfl, rfl⟩ := hn3
            obtain ⟨hu1, hu2⟩ := unzig_le (natAt_lt hne).1
            have HST := Lib.hid (rd_some HRD.out hne)
            clear hne
            go_wp2_with fail
            refine (columns_any og (j * 6) w3).mono ?_
            rintro e' w4 ⟨rfl, hb4, hblk⟩
            have z0 := ptr_cellO hblk hk6
            have hA4 := HA3.out.keep hb4
            have z1 := hA4.cell (HO.out.2 j k hlt hk6)
            have z2 := hA4.frozen (j * 6 + k)
            have HR4 := Lib.hid (HR3.out.keep hb4)
            have HB4 := Lib.hid (HB3.out.tr hb4)
            have HA4 := Lib.hid hA4
            clear hA4 hb4 hblk
            go_wp2
            go_roundw
            case rel =>
              refine ⟨j + 1, x + unzig n, by omega, by go_num, rfl, ⟨l ++ [n], _, _, HST.out, ?_, ?_, HA4.out.set_ _ _, ?_⟩, HB4.out.setCell (by have := HGG.out; have := HG.out; simp; omega) _⟩
              · rw [colSum_snoc (by have := HL.out; omega), HX.out]
              · exact HR4.out.grown (grown_set w4 og _ _) (by have := HGG.out; simp; omega)
              · have := partF_step HO.out HL.out hlt hk6 (n := n)
                rw [HX.out]
                exact this
            case measure => simp [intOf]; omega
        · obtain rfl : j = many := by omega
          go_wp2
          go_roundw
          case rel => exact ⟨k + 1, by omega, by go_num, HD.out.next HRA.out, HB⟩
          case measure => simp [intOf]; omega
    · obtain rfl : k = 6 := by omega
      obtain ⟨l, e, arr, hrd, hx, hR, hA, hO⟩ := HD.out
      obtain ⟨hl, hes, hlx⟩ := rd_facts HRA.out _ _ _ hrd
      obtain ⟨x0, x1, x2, y1, y2⟩ := Rd.go hR
      have HSL := Lib.hid (hO.sl hA (Nat.le_refl many) (by simp only [maxLen]; omega))
      have hdec : decOf s = if e < s.size then (1, []) else if (evsOf l many).all evSmall = true then (0, evsOf l many) else (1, []) := by
        unfold decOf
        rw [HN.out]
        rw [Nat.add_zero] at hrd
        simp only [hrd]
        rw [if_neg (by omega)]
      have HDEC := Lib.hid hdec
      have hel : (evsOf l many).length = many := by simp [evsOf]
      have HEL := Lib.hid hel
      clear hx hrd hR hA hO hlx hl HD hdec hel
      by_cases hlt : e < s.size
      · rw [if_pos hlt] at HDEC
        have hd : decide (e < s.size) = true := decide_eq_true hlt
        go_wp2
        go_ret2
        refine ⟨.slice none 0 0, by rw [HDEC.out]; rfl, ?_, HB.out⟩
        rw [HDEC.out]
        exact Sl.nil_ _ _
      · rw [if_neg hlt] at HDEC
        have hd : decide (e < s.size) = false := decide_eq_false hlt
        cases hall : (evsOf l many).all evSmall with
        | true =>
          rw [if_pos hall] at HDEC
          go_wp2_with (go_at_call 29; refine (containsFunc_any _ (.inr rfl) _ _ _ HSL.out (by have := HEL.out; unfold ok64; omega)).mono ?_; rintro e' w5 ⟨rfl, hb5⟩; have HB5 := Lib.hid (HB.out.tr hb5); have HS5 := Lib.hid (HSL.out.keep hb5); clear hb5; simp only [hall, Bool.not_true])
          go_ret2
          refine ⟨_, by rw [HDEC.out]; rfl, ?_, HB5.out⟩
          rw [HDEC.out]
          exact HS5.out
        | false =>
          rw [if_neg (by simp [hall])] at HDEC
          go_wp2_with (go_at_call 29; refine (containsFunc_any _ (.inr rfl) _ _ _ HSL.out (by have := HEL.out; unfold ok64; omega)).mono ?_; rintro e' w5 ⟨rfl, hb5⟩; have HB5 := Lib.hid (HB.out.tr hb5); clear hb5; simp only [hall, Bool.not_false])
          go_ret2
          refine ⟨.slice none 0 0, by rw [HDEC.out]; rfl, ?_, HB5.out⟩
          rw [HDEC.out]
          exact Sl.nil_ _ _

theorem decode_any (s : ByteArray) (w : World) (hs : ok64 s.size) :
    Calls Try.prog 15 #[.string s] w fun r w' => ∃ v, r = .returned (.tuple #[v, .int .i64 (decOf s).1]) ∧ Sl evR w' v (decOf s).2 ∧ Bel w w' := by
  cases hN : natAt s 0 with
  | none =>
    have hd : decOf s = (1, []) := by unfold decOf; rw [hN]
    rw [hd]
    exact (decode_bad s w hs hN).mono fun r w' ⟨h1, h2⟩ => ⟨_, h1, Sl.nil_ _ _, h2⟩
  | some a =>
    obtain ⟨many, a⟩ := a
    by_cases hm : 4000 < many
    · have hd : decOf s = (2, []) := by unfold decOf; rw [hN]; simp only; rw [if_pos hm]
      rw [hd]
      exact (decode_many s many a w hs hN hm).mono fun r w' ⟨h1, h2⟩ => ⟨_, h1, Sl.nil_ _ _, h2⟩
    · exact decode_ok s many a w hs hN (by omega)

end Go.Proofs.Ytdfbhlehfbckjaa
