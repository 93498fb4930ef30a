/- Frames at a time: walked. Each lemma states its own conditions. -/
import Derived.Test.YtgkpplbomciehaaSca42
namespace Go.Proofs.Ytgkpplbomciehaa
open Go.RowKit
/-- what is wrong with a time -/
noncomputable def atE (ps : List PF) (l : List Ev) (T : Int) : Int := if stateE ps l ≠ 0 then stateE ps l else if T < 0 ∨ (l.length : Int) < T then 3 else 0
theorem atE_ok {ps : List PF} {l : List Ev} {T : Int} (h : atE ps l T = 0) : stateE ps l = 0 ∧ 0 ≤ T ∧ T ≤ l.length := by
  unfold atE at h
  split at h
  · rename_i h1; exact absurd h h1
  · split at h
    · omega
    · omega
/-- frames at a time -/
def frsAt (ps : List PF) (l : List Ev) (T : Int) : List Fm := (Rp.evs ps (l.take T.toNat) (Rp.start ps)).frs
set_option maxRecDepth 20000 in
set_option maxHeartbeats 4000000 in
theorem stAt_any (ps : List PF) (l : List Ev) (T : Int) (vp vl : Value) (w : World) (h : Sl pfR w vp ps) (hl : Sl evR w vl l) : Calls Try.prog 34 #[.agg #[vp], vl, .int .i64 T] w fun x w' =>
    Bel w w' ∧ ∃ v, x = .returned (.tuple #[v, .int .i64 (atE ps l T)]) ∧ (atE ps l T ≠ 0 → v = .slice none 0 0) ∧ (atE ps l T = 0 → Sl frR w' v (frsAt ps l T)) := by
  have HSL := Lib.hid h
  have HEV := Lib.hid hl
  obtain ⟨A, c, rfl, -⟩ := sl_lit h
  obtain ⟨Ae, ce, rfl, hll⟩ := sl_lit hl
  have HB1 : Hid (Bel w (w.alloc (.cells #[.slice A ps.length c] PGT))) := Lib.hid ((Bel.rfl_ w).al _)
  have HP1 := Lib.hid (Blk.new w PGT #[.slice A ps.length c])
  have c0 := HP1.out.cell (i := 0) rfl
  have HRD := Lib.hid (fun W (hb : Bel w W) => stReady_any ps l _ _ W (HSL.out.keep hb) (HEV.out.keep hb))
  have HA := Lib.hid (show atE ps l T = if stateE ps l ≠ 0 then stateE ps l else if T < 0 ∨ (l.length : Int) < T then 3 else 0 from rfl)
  have HSO := Lib.hid (@stateE_ok ps l)
  clear h hl
  generalize atE ps l T = E at *
  generalize stateE ps l = SE at *
  go_enter Try.func34, Try.ntmps34
  go_wp2_with fail
  refine (HRD.out _ HB1.out).mono ?_
  rintro r w2 ⟨rfl, b2⟩
  have HB2 := Lib.hid (HB1.out.tr b2)
  have c0' := b2.cell c0
  clear b2 c0 HRD HP1 HB1
  generalize w.alloc _ = W1 at *
  generalize w.heap.size = Q at *
  by_cases h0 : SE = 0
  rotate_left
  · have d0 : (SE != 0) = true := by simpa using h0
    have HR : Hid (E = SE) := Lib.hid (by rw [HA.out, if_pos h0])
    have H0 := Lib.hid h0
    clear h0 HA c0'
    go_wp2
    go_ret2
    exact ⟨HB2.out, _, by rw [HR.out]; rfl, fun _ => rfl, fun h => absurd (HR.out.symm.trans h) H0.out⟩
  subst h0
  by_cases h1 : T < 0
  · have d1 : decide (T < 0) = true := decide_eq_true h1
    have HR : Hid (E = 3) := Lib.hid (by rw [HA.out, if_neg (by decide), if_pos (.inl h1)])
    clear HA c0'
    go_wp2
    go_ret2
    exact ⟨HB2.out, _, by rw [HR.out]; rfl, fun _ => rfl, fun h => by rw [HR.out] at h; cases h⟩
  have d1 : decide (T < 0) = false := decide_eq_false h1
  by_cases h2 : (l.length : Int) < T
  · have d2 : decide ((l.length : Int) < T) = true := decide_eq_true h2
    have d3 : decide (T > (l.length : Int)) = true := decide_eq_true h2
    have HR : Hid (E = 3) := Lib.hid (by rw [HA.out, if_neg (by decide), if_pos (.inr h2)])
    clear HA c0'
    go_wp2
    go_ret2
    exact ⟨HB2.out, _, by rw [HR.out]; rfl, fun _ => rfl, fun h => by rw [HR.out] at h; cases h⟩
  have d2 : decide ((l.length : Int) < T) = false := decide_eq_false h2
  have d3 : decide (T > (l.length : Int)) = false := decide_eq_false h2
  obtain ⟨n, rfl⟩ : ∃ n : Nat, T = n := ⟨T.toNat, by omega⟩
  have HR : Hid (E = 0) := Lib.hid (by rw [HA.out, if_neg (by decide), if_neg (by omega)])
  obtain ⟨hp, hr, hl4⟩ := HSO.out rfl
  have HRW := Lib.hid (stRaw_any ps hp l (RightP.fits hp hr) hl4 n (by omega) _ _ w2 (HSL.out.keep HB2.out) (HEV.out.keep HB2.out))
  clear HA hp hr hl4 HSO
  go_wp2_with fail
  refine HRW.out.mono ?_
  rintro x w3 ⟨b3, w1, r, vfr, vp2, vfn, xs, b1, rfl, hD⟩
  have HB3 := Lib.hid (HB2.out.tr b3)
  have HF : Hid (Sl frR w3 vfr (frsAt ps l n)) := Lib.hid (by
    have := frs_sl hD.row hD.vars
    rwa [← hD.frs] at this)
  clear b3 hD HRW c0'
  go_wp2
  go_ret2
  exact ⟨HB3.out, _, by rw [HR.out]; rfl, fun h => absurd HR.out h, fun _ => HF.out⟩
end Go.Proofs.Ytgkpplbomciehaa
