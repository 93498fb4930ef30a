/- A sector written: Write, and the document's. Each lemma states its own conditions. -/
import Derived.Test.YtkojeofegoljpaaDskE
namespace Go.Proofs.Ytkojeofegoljpaa
open Go.RowKit

def Dk.wr (d : Dk) (n : Int) (s : ByteArray) : Int := if d.one n = 0 then if s.size = 32 then if d.written.length = 600 then 2 else 0 else 1 else d.one n
def Dk.put (d : Dk) (n : Int) (s : ByteArray) : Dk := ⟨d.kept, d.written ++ [⟨n, s⟩]⟩
def noDk : Dk := ⟨[], []⟩
def Dk.wrote (d : Dk) (n : Int) (s : ByteArray) : Dk := if d.wr n s = 0 then d.put n s else noDk
theorem Dk.one_zero {d : Dk} {n : Int} (h : d.one n = 0) : d.err = 0 ∧ 0 ≤ n ∧ n < d.kept.length := by
  unfold Dk.one at h
  split at h
  · split at h
    · exact ⟨‹_›, ‹_›⟩
    · cases h
  · exact absurd h ‹_›
theorem Dk.err_small {d : Dk} (h : d.err = 0) : d.kept.length ≤ 600 ∧ d.written.length ≤ 600 := ⟨(Dk.err_zero h).1.2, (Dk.err_zero h).2.2.1⟩
/-- what a result's variable holds when two cells are stored -/
theorem two_set {w : World} {R : Nat} {x y a b : Value} (h : Blk w R 25 #[x, y]) : Blk ((w.setCell ⟨R, 0, none⟩ a).setCell ⟨R, 1, none⟩ b) R 25 #[a, b] := (h.set_ 0 a).set_ 1 b

/-- a list whose cells are no slices stays where a variable that holds two slices turns -/
theorem Sl.aside {α : Type} {r : Rep α} (hr : ∀ w w' cs x, r.R w cs x → r.R w' cs x ∧ ∀ u ∈ cs, ∀ A n c, u ≠ .slice A n c) {w : World} {v : Value} {xs : List α} (h : Sl r w v xs) {R : Nat} {t : TypeId} {a1 a2 : Option Addr} {n1 n2 c1 c2 : Nat} (hR : Blk w R t #[.slice a1 n1 c1, .slice a2 n2 c2]) (i : Nat) (u : Value) : Sl r (w.setCell ⟨R, i, none⟩ u) v xs := by
  obtain ⟨A, c, e, hc, hm, hA⟩ := h
  refine ⟨A, c, e, hc, hm, fun hp => ?_⟩
  obtain ⟨b, o, hAe, hx⟩ := hA hp
  refine ⟨b, o, hAe, fun k x hk => ?_⟩
  obtain ⟨cs, hcs, hcell⟩ := hx k x hk
  obtain ⟨h1, h2⟩ := hr w (w.setCell ⟨R, i, none⟩ u) cs x hcs
  refine ⟨cs, h1, fun j y hy => ?_⟩
  have h3 := hcell j y hy
  have hne : b ≠ R := by
    intro hb
    subst hb
    rw [cell_of_row w b _ _ t (0, 0) hR] at h3
    have hm := List.mem_of_getElem? hy
    have h4 := h2 y hm
    have h5 : y ∈ (#[Value.slice a1 n1 c1, .slice a2 n2 c2] : Array Value) := Array.mem_of_getElem? h3
    simp only [List.mem_toArray, List.mem_cons, List.not_mem_nil, or_false] at h5
    rcases h5 with h5 | h5
    · exact h4 _ _ _ h5
    · exact h4 _ _ _ h5
  have hh := heap_setCell_other w ⟨R, i, none⟩ b u hne
  rw [← h3]
  simp only [World.cell?, hh]
theorem strR_plain : ∀ w w' cs x, strR.R w cs x → strR.R w' cs x ∧ ∀ u ∈ cs, ∀ A n c, u ≠ .slice A n c := by
  intro w w' cs x h
  have e : cs = [.string x] := h
  subst e
  exact ⟨rfl, fun u hu A n c => by simp at hu; subst hu; simp⟩
theorem wrR_plain : ∀ w w' cs x, wrR.R w cs x → wrR.R w' cs x ∧ ∀ u ∈ cs, ∀ A n c, u ≠ .slice A n c := by
  intro w w' cs x h
  have e : cs = [.int .i64 x.sector, .string x.bytes] := h
  subst e
  exact ⟨rfl, fun u hu A n c => by simp at hu; rcases hu with rfl | rfl <;> simp⟩
theorem DkV.aside {w : World} {d : Dk} {val : Value} (h : DkV w d val) {R : Nat} {t : TypeId} {a1 a2 : Option Addr} {n1 n2 c1 c2 : Nat} (hR : Blk w R t #[.slice a1 n1 c1, .slice a2 n2 c2]) (b1 b2 : Option Addr) (m1 m2 f1 f2 : Nat) :
    DkV ((w.setCell ⟨R, 0, none⟩ (.slice b1 m1 f1)).setCell ⟨R, 1, none⟩ (.slice b2 m2 f2)) d val := by
  obtain ⟨A1, c1, A2, c2, h1, h2, h3⟩ := h
  have hR2 : Blk (w.setCell ⟨R, 0, none⟩ (.slice b1 m1 f1)) R t #[.slice b1 m1 f1, .slice a2 n2 _] := hR.set_ 0 _
  exact ⟨A1, c1, A2, c2, h1, (h2.aside strR_plain hR 0 _).aside strR_plain hR2 1 _, (h3.aside wrR_plain hR 0 _).aside wrR_plain hR2 1 _⟩

set_option maxRecDepth 20000 in
set_option maxHeartbeats 1000000 in
theorem write_any (d : Dk) (val : Value) (n : Int) (s : ByteArray) (w : World) (h : DkV w d val) (ho : d.ok) (hs : s.size ≤ maxLen) :
    Calls Try.prog 10 #[val, .int .i64 n, .string s] w fun r w' => ∃ val', r = .returned (.tuple #[val', .int .i64 (d.wr n s)]) ∧ DkV w' (d.wrote n s) val' ∧ Bel w w' := by
  have HC := Lib.hid (fun W (hb : Bel w W) => one_any d val n W (h.keep hb) ho)
  have HP := Lib.hid (fun W (hb : Bel w W) (hz : d.one n = 0) => put_any d val n s W (h.keep hb) (Dk.err_small (Dk.one_zero hz).1).1 (Dk.err_small (Dk.one_zero hz).1).2)
  have HE : Hid ((if d.one n = 0 then if s.size = 32 then if d.written.length = 600 then (2 : Int) else 0 else 1 else d.one n) = d.wr n s) := Lib.hid rfl
  have hsl : s.size ≤ 9223372036854775807 := by simp only [maxLen] at hs; exact hs
  obtain ⟨A1, c1, A2, c2, rfl, h1, h2⟩ := h
  obtain ⟨hl1, hl2⟩ := dkLen h1 h2
  clear h1 h2 ho hs
  have HPD : Hid (Dk.mk d.kept (d.written ++ [⟨n, s⟩]) = d.put n s) := Lib.hid rfl
  rw [HPD.out] at HP
  have HU : Hid ((if d.wr n s = 0 then d.put n s else noDk) = d.wrote n s) := Lib.hid rfl
  generalize d.wrote n s = U at *
  generalize d.put n s = P at *
  generalize d.wr n s = T at *
  generalize d.one n = E at *
  generalize d.kept.length = m at *
  generalize d.written.length = k at *
  have hr : Try.f10.results = #[.cell 6 25, .tmp 7] := rfl
  go_enter Try.func10, Try.ntmps10
  go_wp2_with fail
  have hW0 : Bel w ((w.alloc (.cells #[.slice A1 m c1, .slice A2 k c2] 25)).alloc (.cells #[.slice none 0 0, .slice none 0 0] 25)) := ((Bel.rfl_ w).al _).al _
  have hQ := (Blk.new w 25 #[.slice A1 m c1, .slice A2 k c2]).keep ((Bel.rfl_ _).al (.cells #[.slice none 0 0, .slice none 0 0] 25))
  have hR := Blk.new (w.alloc (.cells #[.slice A1 m c1, .slice A2 k c2] 25)) 25 #[.slice none 0 0, .slice none 0 0]
  rw [World.size_alloc] at hR
  refine (HC.out _ hW0).mono ?_
  rintro r w1 ⟨rfl, hb⟩
  have q0 : w1.cell? ⟨w.heap.size, 0, none⟩ = some (.slice A1 m c1) := (hQ.keep hb).cell (i := 0) rfl
  have q1 : w1.cell? ⟨w.heap.size, 1, none⟩ = some (.slice A2 k c2) := (hQ.keep hb).cell (i := 1) rfl
  have hR1 := hR.keep hb
  have d0 : w1.cell? ⟨w.heap.size + 1, 0, none⟩ = some (.slice none 0 0) := hR1.cell (i := 0) rfl
  have d1 : w1.cell? ⟨w.heap.size + 1, 1, none⟩ = some (.slice none 0 0) := hR1.cell (i := 1) rfl
  have e0 := hR1.frozen 0
  have e1 := hR1.frozen 1
  have HR1 := Lib.hid hR1
  have HB := Lib.hid (hW0.tr hb)
  clear hW0 hQ hR hb hR1 HC
  by_cases hE : E = 0
  · rw [if_pos hE] at HE
    by_cases h32 : s.size = 32
    · rw [if_pos h32] at HE
      by_cases hk : k = 600
      · rw [if_pos hk] at HE
        go_wp2
        have z0 := (two_set (a := .slice none 0 0) (b := .slice none 0 0) HR1.out).cell (i := 0) rfl
        have z1 := (two_set (a := .slice none 0 0) (b := .slice none 0 0) HR1.out).cell (i := 1) rfl
        have hbl := (HB.out.setCell (p := ⟨w.heap.size + 1, 0, none⟩) (by dsimp only; omega) (.slice none 0 0)).setCell (p := ⟨w.heap.size + 1, 1, none⟩) (by dsimp only; omega) (.slice none 0 0)
        exact bodyPost_ret (v := .tuple #[.agg #[.slice none 0 0, .slice none 0 0], .int .i64 2]) (by simp [results, z0, z1, go_sem]) rfl ⟨_, by rw [← HE.out], by rw [← HU.out, ← HE.out, if_neg (by decide)]; exact DkV.empty _, hbl⟩
      · rw [if_neg hk] at HE
        have hk2 : ¬ (k : Int) = 600 := by omega
        go_wp2_with fail
        refine (HP.out _ HB.out hE).mono ?_
        rintro r w2 ⟨v2, rfl, hd2, hb2⟩
        have hR2 := HR1.out.keep hb2
        have d0 : w2.cell? ⟨w.heap.size + 1, 0, none⟩ = some (.slice none 0 0) := hR2.cell (i := 0) rfl
        have d1 : w2.cell? ⟨w.heap.size + 1, 1, none⟩ = some (.slice none 0 0) := hR2.cell (i := 1) rfl
        have e0 := hR2.frozen 0
        have e1 := hR2.frozen 1
        have HR2 := Lib.hid hR2
        have HB2 := Lib.hid (HB.out.tr hb2)
        have HDK := Lib.hid hd2
        obtain ⟨B1, f1, B2, f2, rfl, -, -⟩ := hd2
        clear hR2 hb2
        go_wp2
        have z0 := (two_set (a := .slice B1 P.kept.length f1) (b := .slice B2 P.written.length f2) HR2.out).cell (i := 0) rfl
        have z1 := (two_set (a := .slice B1 P.kept.length f1) (b := .slice B2 P.written.length f2) HR2.out).cell (i := 1) rfl
        have hbl := (HB2.out.setCell (p := ⟨w.heap.size + 1, 0, none⟩) (by dsimp only; omega) (.slice B1 P.kept.length f1)).setCell (p := ⟨w.heap.size + 1, 1, none⟩) (by dsimp only; omega) (.slice B2 P.written.length f2)
        exact bodyPost_ret (v := .tuple #[.agg #[.slice B1 P.kept.length f1, .slice B2 P.written.length f2], .int .i64 0]) (by simp [results, z0, z1, go_sem]) rfl ⟨_, by rw [← HE.out], by rw [← HU.out, ← HE.out, if_pos rfl]; exact HDK.out.aside HR2.out _ _ _ _ _ _, hbl⟩
    · rw [if_neg h32] at HE
      have h33 : ((s.size : Int) != 32) = true := by simp; omega
      go_wp2
      have z0 := (two_set (a := .slice none 0 0) (b := .slice none 0 0) HR1.out).cell (i := 0) rfl
      have z1 := (two_set (a := .slice none 0 0) (b := .slice none 0 0) HR1.out).cell (i := 1) rfl
      have hbl := (HB.out.setCell (p := ⟨w.heap.size + 1, 0, none⟩) (by dsimp only; omega) (.slice none 0 0)).setCell (p := ⟨w.heap.size + 1, 1, none⟩) (by dsimp only; omega) (.slice none 0 0)
      exact bodyPost_ret (v := .tuple #[.agg #[.slice none 0 0, .slice none 0 0], .int .i64 1]) (by simp [results, z0, z1, go_sem]) rfl ⟨_, by rw [← HE.out], by rw [← HU.out, ← HE.out, if_neg (by decide)]; exact DkV.empty _, hbl⟩
  · rw [if_neg hE] at HE
    go_wp2
    have z0 := (two_set (a := .slice none 0 0) (b := .slice none 0 0) HR1.out).cell (i := 0) rfl
    have z1 := (two_set (a := .slice none 0 0) (b := .slice none 0 0) HR1.out).cell (i := 1) rfl
    have hbl := (HB.out.setCell (p := ⟨w.heap.size + 1, 0, none⟩) (by dsimp only; omega) (.slice none 0 0)).setCell (p := ⟨w.heap.size + 1, 1, none⟩) (by dsimp only; omega) (.slice none 0 0)
    exact bodyPost_ret (v := .tuple #[.agg #[.slice none 0 0, .slice none 0 0], .int .i64 E]) (by simp [results, z0, z1, go_sem]) rfl ⟨_, by rw [← HE.out], by rw [← HU.out, ← HE.out, if_neg hE]; exact DkV.empty _, hbl⟩

end Go.Proofs.Ytkojeofegoljpaa
