/- A disk opened: walked. Each lemma states its own conditions. -/
import Derived.Test.YtkojeofegoljpaaLogK
namespace Go.Proofs.Ytkojeofegoljpaa
open Go.RowKit

def opErr (d : Dk) : Int := if d.err = 0 then match loadOf d.kept with
  | none => 4
  | some _ => 0
else d.err
def OpIs (w : World) (d : Dk) (r : Ending) (w' : World) : Prop :=
  ∃ v, r = .returned (.tuple #[v, .int .i64 (opErr d)]) ∧ (opErr d ≠ 0 → v = .slice none 0 0) ∧ (opErr d = 0 → ∀ t u bs, loadOf d.kept = some (t, u, bs) → BsO w' w.heap.size v bs)
theorem BsO.base {w : World} {B B' : Nat} {v : Value} {bs : List (List Ev)} (h : BsO w B v bs) (hb : B' ≤ B) : BsO w B' v bs := by
  obtain ⟨vs, h1, h2, h3⟩ := h
  exact ⟨vs, own_base h1 hb, h2, fun i u l hu hl => own_base (h3 i u l hu hl) hb⟩
theorem BsO.sl {w : World} {B : Nat} {v : Value} {bs : List (List Ev)} (h : BsO w B v bs) : Sl (Rep.slice evR) w v bs := by
  obtain ⟨vs, h1, h2, h3⟩ := h
  refine Sl.own (r := Rep.slice evR) h1 h2 fun k x hx => ?_
  obtain ⟨u, hu⟩ : ∃ u, vs[k]? = some u := ⟨_, List.getElem?_eq_getElem (by rw [h2]; exact (List.getElem?_eq_some_iff.1 hx).1)⟩
  refine ⟨u, ?_, (h3 k u x hu hx).sl⟩
  show (vs.drop (k * 1)).take 1 = [u]
  rw [Nat.mul_one]
  obtain ⟨hl, rfl⟩ := List.getElem?_eq_some_iff.1 hu
  rw [List.drop_eq_getElem_cons hl]
  rfl

set_option maxRecDepth 20000 in
set_option maxHeartbeats 1000000 in
theorem lopen_any (d : Dk) (val : Value) (w : World) (h : DkV w d val) (ho : d.ok) :
    Calls Try.prog 23 #[val] w fun r w' => OpIs w d r w' ∧ Bel w w' := by
  have HCK := Lib.hid (fun val W h => check_any d val W h ho)
  have HLD := Lib.hid (fun (hz : d.err = 0) W (v : Value) (hv : Sl strR W v d.kept) => load_any d.kept v W hv (Dk.err_zero hz).2.1 (Dk.err_zero hz).1)
  have HE : Hid ((if d.err = 0 then match loadOf d.kept with
    | none => (4 : Int)
    | some _ => 0
  else d.err) = opErr d) := Lib.hid rfl
  have HH := Lib.hid h
  obtain ⟨A1, c1, A2, c2, rfl, h1, -⟩ := h
  have HK1 := Lib.hid h1
  clear h1 ho
  have HQ := Lib.hid (Blk.new w 25 #[.slice A1 d.kept.length c1, .slice A2 d.written.length c2])
  have HB := Lib.hid ((Bel.rfl_ w).al (.cells #[.slice A1 d.kept.length c1, .slice A2 d.written.length c2] 25))
  go_enter Try.func23, Try.ntmps23
  go_upto_region 1 with fail
  generalize w.alloc (.cells #[.slice A1 d.kept.length c1, .slice A2 d.written.length c2] 25) = W0 at *
  have q0 := HQ.out.cell (i := 0) (v := .slice A1 d.kept.length c1) rfl
  have q1 := HQ.out.cell (i := 1) (v := .slice A2 d.written.length c2) rfl
  go_wp2_with fail
  refine (HCK.out _ _ (HH.out.keep HB.out)).mono ?_
  rintro r w1 ⟨rfl, hb1⟩
  replace HB := Lib.hid (HB.out.tr hb1)
  replace HQ := Lib.hid (HQ.out.keep hb1)
  clear hb1 q0 q1 HCK
  by_cases hz : d.err = 0
  rotate_left
  · have hbe : (d.err != 0) = true := by simpa using hz
    have HOE : Hid (opErr d = d.err) := Lib.hid (by rw [← HE.out, if_neg hz])
    have HNZ := Lib.hid hz
    clear hz
    generalize d.err = ER at *
    go_wp2
    go_ret2
    exact ⟨⟨_, by rw [HOE.out]; rfl, fun _ => rfl, fun h => absurd (HOE.out.symm.trans h) HNZ.out⟩, HB.out⟩
  · rw [hz]
    have HZ := Lib.hid hz
    replace HLD := Lib.hid (HLD.out hz)
    clear hz
    have q0 := HQ.out.cell (i := 0) (v := .slice A1 d.kept.length c1) rfl
    have q1 := HQ.out.cell (i := 1) (v := .slice A2 d.written.length c2) rfl
    go_wp2_with fail
    refine (HLD.out _ _ (HK1.out.keep HB.out)).mono ?_
    rintro r w3 ⟨hli, hb3⟩
    have HSZ := Lib.hid HB.out.size
    replace HB := Lib.hid (HB.out.tr hb3)
    clear hb3 q0 q1 HLD
    unfold LoadIs at hli
    cases hlo : loadOf d.kept with
    | none =>
      rw [hlo] at hli
      have hli : r = .returned (.tuple #[.pointer none, .bool false]) := hli
      subst hli
      have HOE : Hid (opErr d = 4) := Lib.hid (by rw [← HE.out, if_pos HZ.out, hlo])
      clear hlo
      go_wp2
      go_ret2
      exact ⟨⟨_, by rw [HOE.out]; rfl, fun _ => rfl, fun h => absurd (HOE.out.symm.trans h) (by decide)⟩, HB.out⟩
    | some p =>
      obtain ⟨t, u, bs⟩ := p
      rw [hlo] at hli
      obtain ⟨bv, rfl, hS, hBs⟩ : ∃ v, r = .returned (.tuple #[.pointer (some ⟨w1.heap.size, 0, none⟩), .bool true]) ∧ Blk w3 w1.heap.size 87 #[.int .i64 t, .int .i64 u, v] ∧ BsO w3 (w1.heap.size + 1) v bs := hli
      have HOE : Hid (opErr d = 0) := Lib.hid (by rw [← HE.out, if_pos HZ.out, hlo])
      have HLO := Lib.hid hlo
      have HBS := Lib.hid (hBs.base (B' := w.heap.size) (by have := HSZ.out; omega))
      have s2 := hS.cell (i := 2) (v := bv) rfl
      clear hlo hS hBs
      go_wp2
      go_ret2
      refine ⟨⟨_, by rw [HOE.out]; rfl, fun h => absurd HOE.out h, fun _ t' u' bs' h' => ?_⟩, HB.out⟩
      have he := HLO.out.symm.trans h'
      simp only [Option.some.injEq, Prod.mk.injEq] at he
      obtain ⟨-, -, rfl⟩ := he
      exact HBS.out

end Go.Proofs.Ytkojeofegoljpaa
