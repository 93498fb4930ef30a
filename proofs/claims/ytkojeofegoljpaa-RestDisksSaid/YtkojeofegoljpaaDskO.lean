/- What must be in any case, of disks; whether a disk is what it must be. Each lemma states its own conditions. -/
import Derived.Test.YtkojeofegoljpaaDskN
namespace Go.Proofs.Ytkojeofegoljpaa
open Go.RowKit

theorem sameDk_self (a : Dk) : sameDk a a = true := by simp [sameDk]
set_option maxRecDepth 20000 in
set_option maxHeartbeats 1000000 in
theorem diskIs_any (a b : Dk) (va vb : Value) (e : Int) (w : World) (ha : DkV w a va) (hb : DkV w b vb) (hab : a = if e = 0 then b else noDk) :
    Calls Try.prog 20 #[va, .int .i64 e, .int .i64 e, vb] w fun r w' => r = .returned (.bool true) ∧ Bel w w' := by
  have HA := Lib.hid ha
  have HB := Lib.hid hb
  obtain ⟨A1, c1, A2, c2, rfl, -, -⟩ := ha
  obtain ⟨B1, d1, B2, d2, rfl, -, -⟩ := hb
  by_cases h0 : e = 0
  · subst h0
    rw [if_pos rfl] at hab
    have HS := Lib.hid (fun W (hw : Bel w W) => sameDisk_any a b _ _ W (HA.out.keep hw) (HB.out.keep hw))
    subst hab
    rw [sameDk_self] at HS
    generalize a.kept.length = n1 at *
    generalize a.written.length = n2 at *
    clear HA HB
    go_enter Try.func20, Try.ntmps20
    go_wp2_with fail
    refine (HS.out _ (((Bel.rfl_ w).al _).al _)).mono ?_
    rintro r w2 ⟨rfl, hb2⟩
    have HB2 := Lib.hid ((((Bel.rfl_ w).al _).al _).tr hb2)
    clear hb2
    go_wp2
    go_ret
    exact ⟨rfl, HB2.out⟩
  · rw [if_neg h0] at hab
    have HS := Lib.hid (fun W (hw : Bel w W) => sameDisk_any a noDk _ _ W (HA.out.keep hw) (DkV.empty W))
    rw [hab, sameDk_self] at HS
    unfold emptyD at HS
    subst hab
    have hbl := ((Bel.rfl_ w).al (.cells #[.slice A1 noDk.kept.length c1, .slice A2 noDk.written.length c2] 25)).al (.cells #[.slice none 0 0, .slice none 0 0] 25)
    have HBL := Lib.hid hbl
    clear hbl
    generalize b.kept.length = n3 at *
    generalize b.written.length = n4 at *
    clear HA HB
    go_enter Try.func20, Try.ntmps20
    go_wp2_with fail
    refine (HS.out _ HBL.out).mono ?_
    rintro r w2 ⟨rfl, hb2⟩
    have HB2 := Lib.hid (Bel.tr HBL.out hb2)
    clear hb2
    go_wp2
    go_ret
    exact ⟨rfl, HB2.out⟩

/-- the disks that must be -/
def D0 : Dk := ⟨[sec 0, sec 0], []⟩
def D1 : Dk := ⟨[sec 0, sec 0], [⟨1, sec 7⟩]⟩
def D2 : Dk := ⟨[sec 0, sec 7], []⟩
theorem newDk2 : newDk 2 = D0 := rfl
theorem newErr2 : newErr 2 = 0 := rfl
theorem D0_err : D0.err = 0 := by simp [Dk.err, D0, sec_size, wErr]
theorem D1_err : D1.err = 0 := by simp [Dk.err, D1, sec_size, wErr]
theorem D0_one : D0.one 1 = 0 := by simp [Dk.one, D0_err]; simp [D0]
theorem D1_one : D1.one 1 = 0 := by simp [Dk.one, D1_err]; simp [D1]
theorem D0_wr : D0.wr 1 (sec 7) = 0 := by simp [Dk.wr, D0_one, sec_size]; simp [D0]
theorem D0_wrote : D0.wrote 1 (sec 7) = D1 := by rw [Dk.wrote, if_pos D0_wr]; rfl
theorem D1_read : D1.read 1 = sec 7 := by rw [Dk.read, if_pos D1_one]; rfl
theorem D1_flushed : D1.flushed = D2 := by rw [Dk.flushed, if_pos D1_err]; rfl
theorem D1_crashed : D1.crashed [false] = D0 := by rw [Dk.crashed, if_pos D1_err]; rfl
theorem sec_max (x : Int) : (sec x).size ≤ maxLen := by rw [sec_size]; decide
theorem D0_ok : D0.ok := ⟨fun s h => by simp [D0] at h; subst h; exact sec_max 0, fun x h => by simp [D0] at h⟩
theorem D1_ok : D1.ok := ⟨fun s h => by simp [D1] at h; subst h; exact sec_max 0, fun x h => by simp [D1] at h; subst h; exact sec_max 7⟩

end Go.Proofs.Ytkojeofegoljpaa
