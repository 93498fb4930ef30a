/- The document's decoding where the count is told. Each lemma states its own conditions. -/
import Derived.Test.YtdfbhlehfbckjaaColL
namespace Go.Proofs.Ytdfbhlehfbckjaa
open Go.RowKit

theorem own_base {w : World} {b b' : Nat} {e : TypeId} {s n : Nat} {v : Value} {x : List Value} (h : w.ownsRow b e s v n x) (hb : b' ≤ b) : w.ownsRow b' e s v n x := by
  refine ⟨h.1, ?_⟩
  rcases h.2 with h | ⟨g, c, cur, h1, h2, h3⟩
  · exact .inl h
  · exact .inr ⟨g, c, cur, h1, by omega, h3⟩
theorem own_slice {w : World} {b : Nat} {e : TypeId} {s n : Nat} {v : Value} {x : List Value} (h : w.ownsRow b e s v n x) : ∃ A m c, v = .slice A m c := by
  rcases h.2 with ⟨rfl, _⟩ | ⟨g, c, cur, rfl, _⟩ <;> exact ⟨_, _, _, rfl⟩
theorem RSt.push {B : Nat} {l : List Nat} {many : Nat} {w w' : World} {k : Nat} {rows rows' row : Value} {vs : List Value} {b : Nat} (h1 : w.ownsRow B 23 1 rows k vs) (h2 : ∀ c, c < k → ∃ v, vs[c]? = some v ∧ w.ownsRow B 3 1 v many (colC l many c many))
    (hr : w.ownsRow b 3 1 row many (colC l many k many)) (hb : B ≤ b) (hn : w'.ownsRow B 23 1 rows' (k + 1) (vs ++ [row])) (hg : w.grownBy w' rows.ownBlock) : RSt B l many w' (k + 1) rows' := by
  have hl : vs.length = k := by have := h1.1; omega
  refine ⟨_, hn, fun c hc => ?_⟩
  by_cases hck : c < k
  · obtain ⟨v, h3, h4⟩ := h2 c hck
    exact ⟨v, by rw [List.getElem?_append_left (by omega)]; exact h3, h4.kept hg (own_apart h4 h1 (by decide))⟩
  · obtain rfl : c = k := by omega
    exact ⟨row, by rw [List.getElem?_append_right (by omega), hl, Nat.sub_self]; rfl, own_base (hr.kept hg (own_apart hr h1 (by decide))) hb⟩

theorem flat_six {f : Nat → List Value} (hf : ∀ i, (f i).length = 6) (k : Nat) : ∀ m, k < m → ((((List.range m).flatMap f).drop (k * 6)).take 6 = f k) ∧ ((List.range m).flatMap f).length = m * 6
  | 0, h => absurd h (by omega)
  | m + 1, h => by
    have hl : ∀ m, ((List.range m).flatMap f).length = m * 6 := fun m => by
      induction m with
      | zero => rfl
      | succ m ih => rw [List.range_succ, List.flatMap_append, List.length_append, ih]; simp [hf]; omega
    refine ⟨?_, hl _⟩
    rw [List.range_succ, List.flatMap_append]
    by_cases hk : k < m
    · rw [List.drop_append_of_le_length (by rw [hl]; omega), List.take_append_of_le_length (by rw [List.length_drop, hl]; omega)]
      exact (flat_six hf k m hk).1
    · obtain rfl : k = m := by omega
      rw [List.drop_append_of_le_length (by rw [hl]; omega), List.drop_of_length_le (by rw [hl]; omega), List.nil_append, List.flatMap_singleton]
      exact List.take_of_length_le (by rw [hf]; omega)
def evC (l : List Nat) (many j : Nat) : List Value := (List.range j).flatMap fun i => (evAt l many i).cells
theorem evC_succ (l : List Nat) (many j : Nat) : evC l many (j + 1) = evC l many j ++ (evAt l many j).cells := by
  unfold evC
  rw [List.range_succ, List.flatMap_append, List.flatMap_singleton]
theorem evC_sl {w : World} {b : Nat} {v : Value} {l : List Nat} {many : Nat} (h : w.ownsRow b 58 6 v many (evC l many many)) : Sl evR w v (evsOf l many) := by
  refine Sl.own (r := evR) h (by simp [evsOf]) fun k x hx => ?_
  have hk : k < many := by have := (List.getElem?_eq_some_iff.1 hx).1; simpa [evsOf] using this
  have hx2 : x = evAt l many k := by
    unfold evsOf at hx
    rw [List.getElem?_map, List.getElem?_range hk] at hx
    exact (Option.some.inj hx).symm
  subst hx2
  exact (flat_six (f := fun i => (evAt l many i).cells) (fun _ => rfl) k many hk).1
theorem row_cell {w : World} {B rb rc : Nat} {l : List Nat} {many j : Nat} {vs : List Value} (h1 : w.ownsRow B 23 1 (.slice (some ⟨rb, 0, none⟩) 6 rc) 6 vs) (h2 : ∀ c, c < 6 → ∃ v, vs[c]? = some v ∧ w.ownsRow B 3 1 v many (colC l many c many)) (hj : j < many) {c : Nat} (hc : c < 6) :
    ∃ g cp, w.cell? ⟨rb, c, none⟩ = some (.slice (some ⟨g, 0, none⟩) many cp) ∧ w.cell? ⟨g, j, none⟩ = some (.int .i64 (val l many c j)) := by
  obtain ⟨v, h3, h4⟩ := h2 c hc
  have h5 := h1.cellAt c (by omega)
  rw [h3] at h5
  rcases h4.2 with ⟨_, h0⟩ | ⟨g, cp, cur, rfl, _⟩
  · omega
  · refine ⟨g, cp, h5, ?_⟩
    rw [h4.cellAt j (by omega)]
    simp [colC, hj]
theorem rows_slice {w : World} {B : Nat} {rows : Value} {vs : List Value} (h1 : w.ownsRow B 23 1 rows 6 vs) : ∃ rb rc, rows = .slice (some ⟨rb, 0, none⟩) 6 rc := by
  rcases h1.2 with ⟨_, h0⟩ | ⟨g, cp, cur, rfl, _⟩
  · omega
  · exact ⟨_, _, rfl⟩
theorem keep12 {w w' : World} {rb j many g0 c0 g1 c1 g2 c2 g3 c3 g4 c4 g5 c5 : Nat} {l : List Nat} (h : Bel w w') (hf : w.cell? ⟨rb, 0, none⟩ = some (.slice (some ⟨g0, 0, none⟩) many c0) ∧ w.cell? ⟨g0, j, none⟩ = some (.int .i64 (val l many 0 j)) ∧ w.cell? ⟨rb, 1, none⟩ = some (.slice (some ⟨g1, 0, none⟩) many c1) ∧ w.cell? ⟨g1, j, none⟩ = some (.int .i64 (val l many 1 j)) ∧ w.cell? ⟨rb, 2, none⟩ = some (.slice (some ⟨g2, 0, none⟩) many c2) ∧ w.cell? ⟨g2, j, none⟩ = some (.int .i64 (val l many 2 j)) ∧ w.cell? ⟨rb, 3, none⟩ = some (.slice (some ⟨g3, 0, none⟩) many c3) ∧ w.cell? ⟨g3, j, none⟩ = some (.int .i64 (val l many 3 j)) ∧ w.cell? ⟨rb, 4, none⟩ = some (.slice (some ⟨g4, 0, none⟩) many c4) ∧ w.cell? ⟨g4, j, none⟩ = some (.int .i64 (val l many 4 j)) ∧ w.cell? ⟨rb, 5, none⟩ = some (.slice (some ⟨g5, 0, none⟩) many c5) ∧ w.cell? ⟨g5, j, none⟩ = some (.int .i64 (val l many 5 j))) : w'.cell? ⟨rb, 0, none⟩ = some (.slice (some ⟨g0, 0, none⟩) many c0) ∧ w'.cell? ⟨g0, j, none⟩ = some (.int .i64 (val l many 0 j)) ∧ w'.cell? ⟨rb, 1, none⟩ = some (.slice (some ⟨g1, 0, none⟩) many c1) ∧ w'.cell? ⟨g1, j, none⟩ = some (.int .i64 (val l many 1 j)) ∧ w'.cell? ⟨rb, 2, none⟩ = some (.slice (some ⟨g2, 0, none⟩) many c2) ∧ w'.cell? ⟨g2, j, none⟩ = some (.int .i64 (val l many 2 j)) ∧ w'.cell? ⟨rb, 3, none⟩ = some (.slice (some ⟨g3, 0, none⟩) many c3) ∧ w'.cell? ⟨g3, j, none⟩ = some (.int .i64 (val l many 3 j)) ∧ w'.cell? ⟨rb, 4, none⟩ = some (.slice (some ⟨g4, 0, none⟩) many c4) ∧ w'.cell? ⟨g4, j, none⟩ = some (.int .i64 (val l many 4 j)) ∧ w'.cell? ⟨rb, 5, none⟩ = some (.slice (some ⟨g5, 0, none⟩) many c5) ∧ w'.cell? ⟨g5, j, none⟩ = some (.int .i64 (val l many 5 j)) := by
  obtain ⟨a0, b0, a1, b1, a2, b2, a3, b3, a4, b4, a5, b5⟩ := hf
  exact ⟨h.cell a0, h.cell b0, h.cell a1, h.cell b1, h.cell a2, h.cell b2, h.cell a3, h.cell b3, h.cell a4, h.cell b4, h.cell a5, h.cell b5⟩

set_option maxRecDepth 20000 in
set_option maxHeartbeats 1000000 in
theorem decodeOf_ok (s : ByteArray) (many a : Nat) (w : World) (hs : ok64 s.size) (hN : natAt s 0 = some (many, a)) (hm : many ≤ 4000) :
    Calls Try.prog 18 #[.string s] w fun r w' => ∃ v, r = .returned (.tuple #[v, .int .i64 (decOf s).1]) ∧ Sl evR w' v (decOf s).2 ∧ Bel w w' := by
  have HN := Lib.hid hN
  obtain ⟨_, _, has⟩ := natAt_lt hN
  clear hN
  have HRA := Lib.hid has; clear has
  go_enter Try.func18, Try.ntmps18
  go_wp2_with fail
  refine (naturalAt_ref s 0 w hs (Nat.zero_le _)).mono ?_
  rintro e w1 ⟨⟨n, to, ok, rfl, hok⟩, rfl⟩
  unfold natOk at hok
  rw [HN.out] at hok
  obtain ⟨rfl, rfl, rfl⟩ := hok
  go_wp2_with fail
  go_loopw [5, 7, 8] (fun p rows c wr => ∃ (k e : Nat) (l : List Nat), k ≤ 6 ∧ c = .int .i64 k ∧ p = .int .i64 e ∧ Hid (rd s a (k * many) = some (l, e)) ∧ Hid (RSt w1.heap.size l many wr k rows) ∧ Hid (Bel w1 wr)) (fun _ _ c _ => 6 - (intOf c).toNat)
  case atStart => exact ⟨0, a, [], by omega, rfl, rfl, by unfold Hid; simp [rd], ⟨[], World.ownsRow_nil _ _ _ _, fun c hc => absurd hc (by omega)⟩, Bel.rfl_ _⟩
  case round =>
    obtain ⟨k, e, l, hk, rfl, rfl, HD, HR, HB⟩ := hrel
    by_cases hk6 : k < 6
    · have hdk : decide ((k : Int) < 6) = true := decide_eq_true (by omega)
      go_wp2
      go_loopw [5, 9, 10, 11] (fun p u row i wi => ∃ (j e : Nat) (x : Int) (l : List Nat), j ≤ many ∧ i = .int .i64 j ∧ p = .int .i64 e ∧ u = .int .i64 x ∧ Hid (rd s a (k * many + j) = some (l, e)) ∧ Hid (x = colSum l many k) ∧ Hid (RSt w1.heap.size l many wr k u7) ∧ Hid (wi.ownsRow wr.heap.size 3 1 row j (colC l many k j)) ∧ Hid (Bel wr wi)) (fun _ _ _ i _ => many - (intOf i).toNat)
      case atStart => exact ⟨0, e, 0, l, by omega, rfl, rfl, rfl, HD, (by unfold Hid; rw [colSum_zero (rd_facts HRA.out _ _ _ HD.out).1]), HR, World.ownsRow_nil _ _ _ _, Bel.rfl_ _⟩
      case round =>
        clear HD HR
        obtain ⟨j, e, x, l, hj, rfl, rfl, rfl, HD, HX, HR, HO, HBI⟩ := hrel
        obtain ⟨hl, hes, hlx⟩ := rd_facts HRA.out _ _ _ HD.out
        by_cases hlt : j < many
        · have hsum := colSum_le hlx hl (by omega)
          rw [← HX.out] at hsum
          obtain ⟨hs1, hs2⟩ := hsum
          have HL := Lib.hid hl; clear hl hlx
          go_wp2_with fail
          refine (naturalAt_ref s e _ hs hes).mono ?_
          rintro e' w3 ⟨⟨v, q2, ok, rfl, hok⟩, rfl⟩
          unfold natOk at hok
          cases hne : natAt s e with
          | none =>
            rw [hne] at hok
            subst hok
            have HE : Hid (decOf s = (1, [])) := Lib.hid (decOf_none HN.out hm (rd_none HD.out hne) (by have := Nat.mul_le_mul_right many (show k + 1 ≤ 6 by omega); rw [Nat.add_mul] at this; omega))
            clear hne
            go_wp2
            go_ret2
            refine ⟨.slice none 0 0, by rw [HE.out]; rfl, ?_, HB.out.tr HBI.out⟩
            rw [HE.out]
            exact Sl.nil_ _ _
          | some nt =>
            obtain ⟨n, to⟩ := nt
            rw [hne] at hok
            obtain ⟨rfl, rfl, rfl⟩ := hok
            have hnl := (natAt_lt hne).1
            have HST := Lib.hid (rd_some HD.out hne)
            clear hne
            by_cases h2 : n % 2 = 1
            · have hd : ((n : Int) % 2 == 1) = true := by simp; omega
              have HU : Hid (x - ((n : Int) + 1) / 2 = x + unzig n) := Lib.hid (by unfold unzig; rw [if_pos h2]; omega)
              go_wp2_with (at_builtin; refine wpl_app w3 rfl (.tmp 58) (.tmp 60) 23 rfl wr.heap.size elInt' u10 j _ rfl HO.out [.int .i64 (x - ((n : Int) + 1) / 2)] rfl rfl (by simp [Value.oneCell']) (by simp only [maxLen]; omega) (by omega) HBI.out.size ?_; intro g2 cap w4 hown4 hg4 _; have HO4 := Lib.hid hown4; have HB4 := Lib.hid (Below.ofGrown HBI.out HO.out hg4 (Nat.le_refl _) HBI.out.size); clear hown4 hg4)
              go_roundw
              case rel =>
                refine ⟨j + 1, _, x - ((n : Int) + 1) / 2, l ++ [n], by omega, by go_num, rfl, rfl, HST.out, ?_, HR.out.ext (by have := HL.out; omega) [n], ?_, HB4.out⟩
                · unfold Hid; rw [HU.out, colSum_snoc (by have := HL.out; omega), HX.out]
                · unfold Hid; rw [colC_snoc HL.out, ← HX.out, ← HU.out]; exact HO4.out
              case measure => simp [intOf]; omega
            · have hd : ((n : Int) % 2 == 1) = false := by simp; omega
              have HU : Hid (x + (n : Int) / 2 = x + unzig n) := Lib.hid (by unfold unzig; rw [if_neg h2]; omega)
              go_wp2_with (at_builtin; refine wpl_app w3 rfl (.tmp 58) (.tmp 60) 23 rfl wr.heap.size elInt' u10 j _ rfl HO.out [.int .i64 (x + (n : Int) / 2)] rfl rfl (by simp [Value.oneCell']) (by simp only [maxLen]; omega) (by omega) HBI.out.size ?_; intro g2 cap w4 hown4 hg4 _; have HO4 := Lib.hid hown4; have HB4 := Lib.hid (Below.ofGrown HBI.out HO.out hg4 (Nat.le_refl _) HBI.out.size); clear hown4 hg4)
              go_roundw
              case rel =>
                refine ⟨j + 1, _, x + (n : Int) / 2, l ++ [n], by omega, by go_num, rfl, rfl, HST.out, ?_, HR.out.ext (by have := HL.out; omega) [n], ?_, HB4.out⟩
                · unfold Hid; rw [HU.out, colSum_snoc (by have := HL.out; omega), HX.out]
                · unfold Hid; rw [colC_snoc HL.out, ← HX.out, ← HU.out]; exact HO4.out
              case measure => simp [intOf]; omega
        · obtain rfl : j = many := by omega
          clear hl hlx hes
          obtain ⟨vs, hv1, hv2⟩ := RSt.keep HBI.out HR.out
          have HV1 := Lib.hid hv1; have HV2 := Lib.hid hv2; clear hv1 hv2
          have HBB := Lib.hid (HB.out.tr HBI.out)
          have HOB := Lib.hid (HB.out.size)
          obtain ⟨rA, rm, rc, rfl⟩ := own_slice HO.out
          go_wp2_with (at_builtin; refine wpl_app wr rfl (.tmp 62) (.tmp 64) 80 rfl w1.heap.size elRow u7 k vs rfl HV1.out [.slice rA rm rc] rfl rfl (by simp [Value.oneCell']) (by simp only [maxLen]; omega) (by omega) HBB.out.size ?_; intro g2 cap w4 hown4 hg4 _; have HB4 := Lib.hid (Below.ofGrown HBB.out HV1.out hg4 (Nat.le_refl _) HBB.out.size); have HR4 : Hid (RSt w1.heap.size l j w4 (k + 1) _) := Lib.hid (RSt.push HV1.out HV2.out HO.out HOB.out hown4 hg4); clear hown4 hg4)
          go_roundw
          case rel => exact ⟨k + 1, e, l, by omega, by go_num, rfl, (by unfold Hid; rw [Nat.add_mul, Nat.one_mul]; exact HD.out), HR4, HB4⟩
          case measure => simp [intOf]; omega
    · have hk66 : k = 6 := by omega
      have hdk : decide ((k : Int) < 6) = false := decide_eq_false (by omega)
      rw [hk66] at HD HR
      have HK := Lib.hid hk66; clear hk66
      obtain ⟨hl, hes, hlx⟩ := rd_facts HRA.out _ _ _ HD.out
      have HL := Lib.hid hl; clear hl hlx
      obtain ⟨vs, hv1, hv2⟩ := HR.out
      have HV1 := Lib.hid hv1; have HV2 := Lib.hid hv2; clear hv1 hv2
      obtain ⟨rb, rc, rfl⟩ := rows_slice HV1.out
      go_wp2
      go_loopw [15, 16] (fun out i wi => ∃ j : Nat, j ≤ many ∧ i = .int .i64 j ∧ Hid (wi.ownsRow wr.heap.size 58 6 out j (evC l many j)) ∧ Hid (Bel wr wi)) (fun _ i _ => many - (intOf i).toNat)
      case atStart => exact ⟨0, by omega, rfl, World.ownsRow_nil _ _ _ _, Bel.rfl_ _⟩
      case round =>
        obtain ⟨j, hj, rfl, HO, HBI⟩ := hrel
        by_cases hlt : j < many
        · obtain ⟨g0, c0, a0, b0⟩ := row_cell HV1.out HV2.out hlt (show 0 < 6 by omega); obtain ⟨g1, c1, a1, b1⟩ := row_cell HV1.out HV2.out hlt (show 1 < 6 by omega); obtain ⟨g2, c2, a2, b2⟩ := row_cell HV1.out HV2.out hlt (show 2 < 6 by omega); obtain ⟨g3, c3, a3, b3⟩ := row_cell HV1.out HV2.out hlt (show 3 < 6 by omega); obtain ⟨g4, c4, a4, b4⟩ := row_cell HV1.out HV2.out hlt (show 4 < 6 by omega); obtain ⟨g5, c5, a5, b5⟩ := row_cell HV1.out HV2.out hlt (show 5 < 6 by omega)
          have HF0 := Lib.hid (And.intro a0 (And.intro b0 (And.intro a1 (And.intro b1 (And.intro a2 (And.intro b2 (And.intro a3 (And.intro b3 (And.intro a4 (And.intro b4 (And.intro a5 b5)))))))))))
          obtain ⟨a0, b0, a1, b1, a2, b2, a3, b3, a4, b4, a5, b5⟩ := keep12 HBI.out ⟨a0, b0, a1, b1, a2, b2, a3, b3, a4, b4, a5, b5⟩
          have Q3 : Hid (∀ u ∈ ([.int .i64 (val l many 0 j), .int .i64 (val l many 1 j), .int .i64 (val l many 2 j), .int .i64 (val l many 3 j), .int .i64 (val l many 4 j), .int .i64 (val l many 5 j)] : List Value), u.oneCell' = true) := Lib.hid (by simp [Value.oneCell'])
          have Q1 : Hid (j + 1 ≤ maxLen) := Lib.hid (by simp only [maxLen]; omega)
          have Q2 : Hid ((j + 1) * 48 ≤ 140737488355328) := Lib.hid (by omega)
          have Q4 := Lib.hid HBI.out.size
          go_wp2
          go_region_held3 (fun w' => w'.cell? ⟨rb, 0, none⟩ = some (.slice (some ⟨g0, 0, none⟩) many c0) ∧ w'.cell? ⟨g0, j, none⟩ = some (.int .i64 (val l many 0 j)) ∧ w'.cell? ⟨rb, 1, none⟩ = some (.slice (some ⟨g1, 0, none⟩) many c1) ∧ w'.cell? ⟨g1, j, none⟩ = some (.int .i64 (val l many 1 j)) ∧ w'.cell? ⟨rb, 2, none⟩ = some (.slice (some ⟨g2, 0, none⟩) many c2) ∧ w'.cell? ⟨g2, j, none⟩ = some (.int .i64 (val l many 2 j)) ∧ w'.cell? ⟨rb, 3, none⟩ = some (.slice (some ⟨g3, 0, none⟩) many c3) ∧ w'.cell? ⟨g3, j, none⟩ = some (.int .i64 (val l many 3 j)) ∧ w'.cell? ⟨rb, 4, none⟩ = some (.slice (some ⟨g4, 0, none⟩) many c4) ∧ w'.cell? ⟨g4, j, none⟩ = some (.int .i64 (val l many 4 j)) ∧ w'.cell? ⟨rb, 5, none⟩ = some (.slice (some ⟨g5, 0, none⟩) many c5) ∧ w'.cell? ⟨g5, j, none⟩ = some (.int .i64 (val l many 5 j)))
            (first | exact hF3.out | exact keep12 (by repeat (first | exact Bel.rfl_ _ | apply Bel.dr | apply Bel.al)) ⟨a0, b0, a1, b1, a2, b2, a3, b3, a4, b4, a5, b5⟩)
            ((refine @step_app _ wr.drew _ _ _ _ _ _ ?_ (.tmp 71) (.tmp 109) 22 ?_ _ _ _ _ elEv' u15 _ _ ?_ HO.out [.int .i64 (val l many 0 j), .int .i64 (val l many 1 j), .int .i64 (val l many 2 j), .int .i64 (val l many 3 j), .int .i64 (val l many 4 j), .int .i64 (val l many 5 j)] wr.heap.size rfl ?_ ?_ Q3.out Q1.out Q2.out Q4.out ?_ _ ?_; exact rfl; exact rfl; exact rfl; exact rfl; exact rfl; rotate_left; exact rfl; intro g cap w3 hown3 hg3 _; have HB3 := Lib.hid (Below.ofGrown HBI.out HO.out ⟨hg3.os, hg3.tape, hg3.output, hg3.size, hg3.block⟩ (Nat.le_refl _) HBI.out.size); have hF3 := Lib.hid (keep12 HB3.out HF0.out); have HO3 := Lib.hid hown3; clear hown3 hg3))
          clear a0 b0 a1 b1 a2 b2 a3 b3 a4 b4 a5 b5
          go_wp2
          go_roundw
          case rel => exact ⟨j + 1, by omega, by go_num, (by unfold Hid; rw [evC_succ]; exact HO3.out), HB3⟩
          case measure => simp [intOf]; omega
        · obtain rfl : j = many := by omega
          have HSL := Lib.hid (evC_sl HO.out)
          have HBB := Lib.hid (HB.out.tr HBI.out)
          have hdec : decOf s = if e < s.size then (1, []) else if (evsOf l j).all evSmall = true then (0, evsOf l j) else (1, []) := by
            unfold decOf
            rw [HN.out]
            simp only [HD.out]
            rw [if_neg (by omega)]
          have HDEC := Lib.hid hdec
          have hel : (evsOf l j).length = j := by simp [evsOf]
          have HEL := Lib.hid hel
          clear hdec hel
          by_cases hlt2 : e < s.size
          · rw [if_pos hlt2] at HDEC
            have hd : decide (e < s.size) = true := decide_eq_true hlt2
            go_wp2
            go_ret2
            refine ⟨.slice none 0 0, by rw [HDEC.out]; rfl, ?_, HBB.out⟩
            rw [HDEC.out]
            exact Sl.nil_ _ _
          · rw [if_neg hlt2] at HDEC
            have hd : decide (e < s.size) = false := decide_eq_false hlt2
            cases hall : (evsOf l j).all evSmall with
            | true =>
              rw [if_pos hall] at HDEC
              go_wp2_with (go_at_call 16; refine (areSmall_any _ _ _ HSL.out (by have := HEL.out; unfold ok64; omega)).mono ?_; rintro e' w5 ⟨rfl, hb5⟩; have HB5 := Lib.hid (HBB.out.tr hb5); have HS5 := Lib.hid (HSL.out.keep hb5); clear hb5; rw [hall])
              go_ret2
              refine ⟨_, by rw [HDEC.out]; rfl, ?_, HB5.out⟩
              rw [HDEC.out]
              exact HS5.out
            | false =>
              rw [if_neg (by simp [hall])] at HDEC
              go_wp2_with (go_at_call 16; refine (areSmall_any _ _ _ HSL.out (by have := HEL.out; unfold ok64; omega)).mono ?_; rintro e' w5 ⟨rfl, hb5⟩; have HB5 := Lib.hid (HBB.out.tr hb5); clear hb5; rw [hall])
              go_ret2
              refine ⟨.slice none 0 0, by rw [HDEC.out]; rfl, ?_, HB5.out⟩
              rw [HDEC.out]
              exact Sl.nil_ _ _

theorem decodeOf_any (s : ByteArray) (w : World) (hs : ok64 s.size) :
    Calls Try.prog 18 #[.string s] w fun r w' => ∃ v, r = .returned (.tuple #[v, .int .i64 (decOf s).1]) ∧ Sl evR w' v (decOf s).2 ∧ Bel w w' := by
  cases hN : natAt s 0 with
  | none =>
    have hd : decOf s = (1, []) := by unfold decOf; rw [hN]
    rw [hd]
    exact (decodeOf_bad s w hs hN).mono fun r w' ⟨h1, h2⟩ => ⟨_, h1, Sl.nil_ _ _, h2⟩
  | some a =>
    obtain ⟨many, a⟩ := a
    by_cases hm : 4000 < many
    · have hd : decOf s = (2, []) := by unfold decOf; rw [hN]; simp only; rw [if_pos hm]
      rw [hd]
      exact (decodeOf_many s many a w hs hN hm).mono fun r w' ⟨h1, h2⟩ => ⟨_, h1, Sl.nil_ _ _, h2⟩
    · exact decodeOf_ok s many a w hs hN (by omega)

end Go.Proofs.Ytdfbhlehfbckjaa
