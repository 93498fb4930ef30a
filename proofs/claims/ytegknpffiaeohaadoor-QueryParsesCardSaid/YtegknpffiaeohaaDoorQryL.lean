/- Holds, SpansOf, and the small query and trace: walked. Each lemma states its own conditions. -/
import Derived.Test.YtegknpffiaeohaaDoorSpanP
import Derived.RangeFuncBox
import Derived.Laws.OwnMore
namespace Go.Proofs.YtegknpffiaeohaaDoor
open Go.RowKit

theorem Ask.err_zero {q : Ask} (h : q.err = 0) : q.chk = 0 := by
  unfold Ask.err at h
  split at h
  · cases h
  · exact h
/-- what is wrong with a query beside so many events -/
def holdErr (q : Ask) (n : Nat) : Int := if q.err = 0 then if 4000 < n then 2 else 0 else q.err
def holdL (q : Ask) (l : List Ev) : List Bool := if holdErr q l.length = 0 then q.holds l else []
theorem holdErr_zero {q : Ask} {n : Nat} (h : holdErr q n = 0) : q.chk = 0 ∧ n ≤ 4000 := by
  unfold holdErr at h
  split at h
  · split at h
    · cases h
    · exact ⟨Ask.err_zero ‹_›, by omega⟩
  · exact absurd h ‹_›
theorem holdL_length (q : Ask) (l : List Ev) : (holdL q l).length ≤ 4000 ∧ (holdErr q l.length = 0 → (holdL q l).length = l.length) := by
  unfold holdL
  split
  · rename_i h
    obtain ⟨h1, h2⟩ := holdErr_zero h
    have := Ask.holds_length l q h1
    exact ⟨by omega, fun _ => this⟩
  · exact ⟨by simp, fun h => absurd h ‹_›⟩

set_option maxRecDepth 20000 in
theorem holds_any (q : Ask) (val v : Value) (l : List Ev) (w : World) (h : AskV w q val) (hv : Sl evR w v l) (hl : ok64 l.length) :
    Calls Tryd.prog 16 #[val, v] w fun r w' => ∃ u, r = .returned (.tuple #[u, .int .i64 (holdErr q l.length)]) ∧ Bs w' w.heap.size u (holdL q l) ∧ Bel w w' := by
  have HC := Lib.hid (fun val W h => check_any q val W h)
  have HR : Hid (holdErr q l.length = 0 → ∀ (val v : Value) (w : World), AskV w q val → Sl evR w v l → Calls Tryd.prog 36 #[val, v] w fun r w' => ∃ v', r = .returned v' ∧ Bs w' w.heap.size v' (q.holds l) ∧ Bel w w') :=
    Lib.hid fun h => raw_any l (holdErr_zero h).2 q (holdErr_zero h).1
  have HT : Hid ((if q.err = 0 then if 4000 < l.length then (2 : Int) else 0 else q.err) = holdErr q l.length) := Lib.hid rfl
  have HL : Hid ((if holdErr q l.length = 0 then q.holds l else []) = holdL q l) := Lib.hid rfl
  generalize holdErr q l.length = T at *
  generalize holdL q l = TL at *
  generalize q.err = E at *
  have HH := Lib.hid h
  have HV := Lib.hid hv
  obtain ⟨v', rfl, hsl⟩ := h
  obtain ⟨A, c, rfl, -⟩ := hsl
  obtain ⟨LA, lc, rfl, -⟩ := hv
  unfold ok64 at hl
  go_enter Tryd.func16, Tryd.ntmps16
  go_wp2_with fail
  refine (HC.out _ _ (HH.out.keep ((Bel.rfl_ w).al _))).mono ?_
  rintro e w1 ⟨rfl, hb⟩
  have HB := Lib.hid (((Bel.rfl_ w).al _).tr hb)
  have HH1 := Lib.hid (HH.out.keep HB.out)
  have hq0 := (Blk.new w 24 #[.int .i64 q.kind, .int .i64 q.n, .slice A q.args.length c]).keep hb
  have z0 : w1.cell? ⟨w.heap.size, 0, none⟩ = some (.int .i64 q.kind) := hq0.cell rfl
  have z1 : w1.cell? ⟨w.heap.size, 1, none⟩ = some (.int .i64 q.n) := hq0.cell rfl
  have z2 : w1.cell? ⟨w.heap.size, 2, none⟩ = some (.slice A q.args.length c) := hq0.cell rfl
  clear hb hq0 HC
  by_cases hE : E = 0
  · rw [if_pos hE] at HT
    by_cases hn : 4000 < l.length
    · rw [if_pos hn] at HT
      have HTL : Hid (TL = []) := Lib.hid (by rw [← HL.out, ← HT.out, if_neg (by decide)])
      go_wp2
      go_ret2
      exact ⟨_, by rw [← HT.out]; rfl, by rw [HTL.out]; exact World.ownsRow_nil _ _ _ _, HB.out⟩
    · rw [if_neg hn] at HT
      have HTL : Hid (TL = q.holds l) := Lib.hid (by rw [← HL.out, if_pos HT.out.symm])
      go_wp2_with fail
      refine (HR.out HT.out.symm _ _ _ HH1.out (HV.out.keep HB.out)).mono ?_
      rintro r w2 ⟨v2, rfl, hs2, hb2⟩
      go_wp2
      go_ret2
      exact ⟨_, by rw [← HT.out]; rfl, by rw [HTL.out]; exact own_mono hs2 HB.out.size, HB.out.tr hb2⟩
  · rw [if_neg hE] at HT
    have HTL : Hid (TL = []) := Lib.hid (by rw [← HL.out, ← HT.out, if_neg hE])
    go_wp2
    go_ret2
    exact ⟨_, by rw [← HT.out]; rfl, by rw [HTL.out]; exact World.ownsRow_nil _ _ _ _, HB.out⟩

end Go.Proofs.YtegknpffiaeohaaDoor
