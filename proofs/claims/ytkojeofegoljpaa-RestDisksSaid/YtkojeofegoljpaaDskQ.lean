/- Variables that hold disks. Each lemma states its own conditions. -/
import Derived.Test.YtkojeofegoljpaaDskP
namespace Go.Proofs.Ytkojeofegoljpaa
open Go.RowKit

/-- a variable that holds a disk -/
def Hold (W : World) (T : Nat) (d : Dk) : Prop := ∃ A1 c1 A2 c2, Blk W T 25 #[.slice A1 d.kept.length c1, .slice A2 d.written.length c2] ∧ DkV W d (.agg #[.slice A1 d.kept.length c1, .slice A2 d.written.length c2])
theorem Hold.keep {W W' : World} (hb : Bel W W') {T : Nat} {d : Dk} (h : Hold W T d) : Hold W' T d := by
  obtain ⟨A1, c1, A2, c2, h1, h2⟩ := h
  exact ⟨A1, c1, A2, c2, h1.keep hb, h2.keep hb⟩
theorem Hold.lt {W : World} {T : Nat} {d : Dk} (h : Hold W T d) : T < W.heap.size := by
  obtain ⟨A1, c1, A2, c2, h1, h2⟩ := h
  exact h1.lt
theorem Hold.new {W : World} {d : Dk} {A1 A2 : Option Addr} {c1 c2 : Nat} (h : DkV W d (.agg #[.slice A1 d.kept.length c1, .slice A2 d.written.length c2])) : Hold (W.alloc (.cells #[.slice A1 d.kept.length c1, .slice A2 d.written.length c2] 25)) W.heap.size d :=
  ⟨A1, c1, A2, c2, Blk.new _ _ _, h.keep ((Bel.rfl_ W).al _)⟩
theorem Hold.zero (W : World) : Hold (W.alloc (.cells #[.slice none 0 0, .slice none 0 0] 25)) W.heap.size noDk :=
  ⟨none, 0, none, 0, Blk.new _ _ _, DkV.empty _⟩
theorem Hold.other {W : World} {T R : Nat} {d e : Dk} (h : Hold W T d) (hR : Hold W R e) (hne : T ≠ R) (b1 b2 : Option Addr) (m1 m2 f1 f2 : Nat) : Hold ((W.setCell ⟨R, 0, none⟩ (.slice b1 m1 f1)).setCell ⟨R, 1, none⟩ (.slice b2 m2 f2)) T d := by
  obtain ⟨A1, c1, A2, c2, h1, h2⟩ := h
  obtain ⟨B1, d1, B2, d2, h3, h4⟩ := hR
  exact ⟨A1, c1, A2, c2, (h1.far2 hne _ _).far2 hne _ _, h2.aside h3 _ _ _ _ _ _⟩
theorem Hold.set {W : World} {R : Nat} {d e : Dk} (hR : Hold W R e) {B1 B2 : Option Addr} {f1 f2 : Nat} (hv : DkV W d (.agg #[.slice B1 d.kept.length f1, .slice B2 d.written.length f2])) : Hold ((W.setCell ⟨R, 0, none⟩ (.slice B1 d.kept.length f1)).setCell ⟨R, 1, none⟩ (.slice B2 d.written.length f2)) R d := by
  obtain ⟨A1, c1, A2, c2, h1, h2⟩ := hR
  exact ⟨B1, f1, B2, f2, two_set h1, hv.aside h1 _ _ _ _ _ _⟩
/-- variables that hold disks -/
def Alls (W : World) (L : List (Nat × Dk)) : Prop := ∀ p ∈ L, Hold W p.1 p.2
theorem Alls.keep {W W' : World} (hb : Bel W W') {L : List (Nat × Dk)} (h : Alls W L) : Alls W' L := fun p hp => (h p hp).keep hb
theorem Alls.get {W : World} {L : List (Nat × Dk)} (h : Alls W L) (T : Nat) (d : Dk) (hp : (T, d) ∈ L) : Hold W T d := h _ hp
theorem Alls.cons {W : World} {L : List (Nat × Dk)} {T : Nat} {d : Dk} (h1 : Hold W T d) (h : Alls W L) : Alls W ((T, d) :: L) := fun p hp => by
  rcases List.mem_cons.1 hp with rfl | hp
  · exact h1
  · exact h p hp
theorem Alls.nil (W : World) : Alls W [] := fun p hp => by cases hp
theorem Alls.put {W : World} {L : List (Nat × Dk)} (h : Alls W L) {R : Nat} {d e : Dk} (hR : (R, e) ∈ L) {B1 B2 : Option Addr} {f1 f2 : Nat} (hv : DkV W d (.agg #[.slice B1 d.kept.length f1, .slice B2 d.written.length f2])) (L' : List (Nat × Dk)) (hL : ∀ p ∈ L', p = (R, d) ∨ (p ∈ L ∧ p.1 ≠ R)) :
    Alls ((W.setCell ⟨R, 0, none⟩ (.slice B1 d.kept.length f1)).setCell ⟨R, 1, none⟩ (.slice B2 d.written.length f2)) L' := fun p hp => by
  rcases hL p hp with rfl | ⟨h1, h2⟩
  · exact (h _ hR).set hv
  · exact (h p h1).other (h _ hR) h2 _ _ _ _ _ _

/-- what a disk is beside what is wrong -/
def besides (e : Int) (U : Dk) : Prop := U = if e = 0 then U else noDk
theorem besides_of {e : Int} {U : Dk} (h : e ≠ 0 → U = noDk) : besides e U := by
  unfold besides
  by_cases h0 : e = 0
  · rw [if_pos h0]
  · rw [if_neg h0]; exact h h0
theorem newDk_no {n : Int} (h : newErr n ≠ 0) : newDk n = noDk := by
  unfold newErr at h
  unfold newDk
  split at h
  · exact absurd rfl h
  · rename_i h1; rw [if_neg h1]
theorem wrote_no {d : Dk} {n : Int} {s : ByteArray} (h : d.wr n s ≠ 0) : d.wrote n s = noDk := by rw [Dk.wrote, if_neg h]
theorem flushed_no {d : Dk} (h : d.err ≠ 0) : d.flushed = noDk := by rw [Dk.flushed, if_neg h]
theorem crashed_no {d : Dk} {l : List Bool} (h : d.err ≠ 0) : d.crashed l = noDk := by rw [Dk.crashed, if_neg h]
theorem read_no {d : Dk} {n : Int} (h : d.one n ≠ 0) : d.read n = ⟨#[]⟩ := by rw [Dk.read, if_neg h]
theorem kall_true (l : List Bool) : kall true l = fun _ => true := rfl
theorem kall_false (l : List Bool) : kall false l = kb l := by funext i; simp [kall]

end Go.Proofs.Ytkojeofegoljpaa
