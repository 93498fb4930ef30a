/- The document's encoding, and the writer of naturals. Each lemma states its own conditions. -/
import Derived.Test.YtdfbhlehfbckjaaColC
import Derived.Deep.RegionHeld3
namespace Go.Proofs.Ytdfbhlehfbckjaa
open Go.RowKit

def colv (e : Ev) (c : Nat) : Int := [e.kind, e.frame, e.at_, e.var, e.index, e.value].getD c 0
def zig (n : Int) : Nat := if n < 0 then (-2 * n - 1).toNat else (2 * n).toNat

theorem column_ref (e : Ev) (c : Nat) (hc : c < 6) (w : World) : Calls Try.prog 40 #[e.val, .int .i64 c] w fun r w' => r = .returned (.int .i64 (colv e c)) ∧ Bel w w' := by
  unfold Ev.val colv
  match c, hc with
  | 0, _ | 1, _ | 2, _ | 3, _ | 4, _ | 5, _ =>
    go_enter Try.func40, Try.ntmps40
    go_wp2
    go_ret
    exact ⟨rfl, by repeat (first | exact Bel.rfl_ _ | apply Bel.al | apply Bel.dr)⟩

/-- a writer that lies at a block of the call's own -/
def Wr (w : World) (g : Nat) (xs : List Int) : Prop := ∃ v, Blk w g 65 #[v] ∧ w.ownsRow (g + 1) 5 1 v xs.length (xs.map (Value.int .u8))
theorem elU8 : Elem Try.prog 63 5 1 1 := Elem.mk_ (z := .int .u8 0) Try.underlying63 (by kernel_rfl) rfl (by omega)
theorem u63 : Try.prog.underlying 63 = some (.slice 5) := Try.underlying63

theorem grown_set (w : World) (b i : Nat) (u : Value) : w.grownBy (w.setCell ⟨b, i, none⟩ u) (some b) :=
  ⟨rfl, rfl, rfl, by simp, fun k _ hk => heap_setCell_other w _ k u (fun e => hk (by rw [e]))⟩
theorem Wr.put {w : World} {g : Nat} {v v' : Value} {xs : List Int} (hB : Blk w g 65 #[v]) (hO : w.ownsRow (g + 1) 5 1 v' xs.length (xs.map (Value.int .u8))) : Wr (w.setCell ⟨g, 0, none⟩ v') g xs := by
  refine ⟨v', hB.set_ 0 v', hO.kept (grown_set w g 0 v') ?_⟩
  cases h : v'.ownBlock with
  | none => exact .inl rfl
  | some k =>
    have := (hO.lt k h).1
    exact .inr (fun e => by have : k = g := by simpa using e
                            omega)

set_option maxRecDepth 20000 in
theorem wnat_any (g : Nat) (xs : List Int) (n : Nat) (hn : n < 4611686018427387904) (hx : xs.length ≤ 1000000000) (w : World) (h : Wr w g xs) :
    Calls Try.prog 32 #[.pointer (some ⟨g, 0, none⟩), .int .i64 n] w fun r w' => (∃ v, r = .returned v) ∧ Wr w' g (xs ++ natB n) ∧ Below g w w' := by
  have HN := Lib.hid (natB_len 9 n (by omega) (by omega))
  go_enter Try.func32, Try.ntmps32
  go_wp2
  go_loopw [1] (fun v wr => ∃ (m : Nat) (pre : List Int), v = .int .i64 m ∧ Hid (xs ++ natB n = pre ++ natB m) ∧ m ≤ n ∧ Wr wr g pre ∧ Below g w wr) (fun v _ => (intOf v).toNat)
  case atStart => exact ⟨n, xs, rfl, rfl, by omega, h, Below.refl _ _⟩
  case round =>
    obtain ⟨m, pre, rfl, hp, hm, ⟨u, hB, hO⟩, hb⟩ := hrel
    have hpl : pre.length ≤ 1000000009 := by
      have h1 := congrArg List.length hp.out
      rw [List.length_append, List.length_append] at h1
      have := HN.out
      omega
    have x0 : wr.cell? ⟨g, 0, none⟩ = some u := hB.cell rfl
    have y0 := hB.frozen 0
    have z0 := hB.lt
    have HB := Lib.hid hb; have HBk := Lib.hid hB; have HO := Lib.hid hO; clear hb hB hO h
    have hne := Lib.hid (HBk.out.ne_own HO.out (by decide))
    by_cases hlt : m < 128
    · go_wp2_with (at_builtin; refine wpl_app wr rfl (.tmp 25) (.tmp 28) 63 rfl (g + 1) elU8 u pre.length _ rfl HO.out [.int .u8 m] rfl rfl (by simp [Value.oneCell']) (by simp only [maxLen]; omega) (by omega) (by omega) ?_; intro g2 cap w2 hown2 hg2 _; have hB2 := HBk.out.grown hg2 hne.out; have x2 : w2.cell? ⟨g, 0, none⟩ = some u := hB2.cell rfl; have y2 := hB2.frozen 0; have HB2 := Lib.hid hB2; have HO2 := Lib.hid hown2; have HG2 := Lib.hid hg2; clear hB2 hown2 hg2)
      have hb2 := Below.grown HB.out HG2.out (by omega) (fun k hk => by have := (HO.out.lt k hk).1; omega)
      refine bodyPost_end (v := .tuple #[]) (results_none rfl _ _ _) rfl ⟨⟨_, rfl⟩, ?_, hb2.setCell (Nat.le_refl _) _⟩
      rw [hp.out, natB_lo hlt]
      refine Wr.put HB2.out ?_
      have := HO2.out
      simpa using this
    · go_wp2_with (at_builtin; refine wpl_app wr rfl (.tmp 10) (.tmp 15) 63 rfl (g + 1) elU8 u pre.length _ rfl HO.out [.int .u8 (m % 128 + 128)] rfl rfl (by simp [Value.oneCell']) (by simp only [maxLen]; omega) (by omega) (by omega) ?_; intro g2 cap w2 hown2 hg2 _; have hB2 := HBk.out.grown hg2 hne.out; have x2 : w2.cell? ⟨g, 0, none⟩ = some u := hB2.cell rfl; have y2 := hB2.frozen 0; have HB2 := Lib.hid hB2; have HO2 := Lib.hid hown2; have HG2 := Lib.hid hg2; clear hB2 hown2 hg2)
      have hb2 := Below.grown HB.out HG2.out (by omega) (fun k hk => by have := (HO.out.lt k hk).1; omega)
      go_roundw
      case rel =>
        refine ⟨m / 128, pre ++ [((m % 128 + 128 : Nat) : Int)], by go_num, (by unfold Hid; rw [hp.out, natB_hi hlt, List.append_assoc]; rfl), by omega, Wr.put HB2.out ?_, hb2.setCell (Nat.le_refl _) _⟩
        have := HO2.out
        simpa using this
      case measure => simp [intOf]; omega

theorem zig_lt {n : Int} (h : -2305843009213693952 < n ∧ n < 2305843009213693952) : zig n < 4611686018427387904 := by unfold zig; split <;> omega
theorem wnum_any (g : Nat) (xs : List Int) (n : Int) (hn : -2305843009213693952 < n ∧ n < 2305843009213693952) (hx : xs.length ≤ 1000000000) (w : World) (h : Wr w g xs) :
    Calls Try.prog 34 #[.pointer (some ⟨g, 0, none⟩), .int .i64 n] w fun r w' => (∃ v, r = .returned v) ∧ Wr w' g (xs ++ natB (zig n)) ∧ Below g w w' := by
  have hz := zig_lt hn
  by_cases h0 : n < 0
  · have hc := Lib.hid (wnat_any g xs (zig n) hz hx w h)
    have hq : zig n = (-2 * n - 1).toNat := by unfold zig; rw [if_pos h0]
    have he : ((zig n : Nat) : Int) = -2 * n - 1 := by rw [hq]; omega
    have HC : Hid (Calls Try.prog 32 #[.pointer (some ⟨g, 0, none⟩), .int .i64 (-2 * n - 1)] w fun r w' => (∃ v, r = .returned v) ∧ Wr w' g (xs ++ natB (zig n)) ∧ Below g w w') := by
      rw [← he]; exact hc
    clear hc hq he hz h
    go_enter Try.func34, Try.ntmps34
    go_wp2_with fail
    refine HC.out.mono ?_
    rintro e w1 ⟨⟨v, rfl⟩, hw, hb⟩
    have HW := Lib.hid hw; have HB := Lib.hid hb; clear hw hb
    go_wp2
    exact bodyPost_end (v := .tuple #[]) (results_none rfl _ _ _) rfl ⟨⟨_, rfl⟩, HW.out, HB.out⟩
  · have hc := Lib.hid (wnat_any g xs (zig n) hz hx w h)
    have hq : zig n = (2 * n).toNat := by unfold zig; rw [if_neg h0]
    have he : ((zig n : Nat) : Int) = 2 * n := by rw [hq]; omega
    have HC : Hid (Calls Try.prog 32 #[.pointer (some ⟨g, 0, none⟩), .int .i64 (2 * n)] w fun r w' => (∃ v, r = .returned v) ∧ Wr w' g (xs ++ natB (zig n)) ∧ Below g w w') := by
      rw [← he]; exact hc
    clear hc hq he hz h
    go_enter Try.func34, Try.ntmps34
    go_wp2_with fail
    refine HC.out.mono ?_
    rintro e w1 ⟨⟨v, rfl⟩, hw, hb⟩
    have HW := Lib.hid hw; have HB := Lib.hid hb; clear hw hb
    go_wp2
    exact bodyPost_end (v := .tuple #[]) (results_none rfl _ _ _) rfl ⟨⟨_, rfl⟩, HW.out, HB.out⟩

/-- the addresses of an event's numbers -/
theorem columns_any (b o : Nat) (w : World) :
    Calls Try.prog 33 #[.pointer (some ⟨b, o, none⟩)] w fun r w' => r = .returned (.slice (some ⟨w.heap.size, 0, none⟩) 6 6) ∧ Bel w w' ∧
      Blk w' w.heap.size 67 #[.pointer (some ⟨b, o, none⟩), .pointer (some ⟨b, o + 1, none⟩), .pointer (some ⟨b, o + 2, none⟩), .pointer (some ⟨b, o + 3, none⟩), .pointer (some ⟨b, o + 4, none⟩), .pointer (some ⟨b, o + 5, none⟩)] := by
  go_enter Try.func33, Try.ntmps33
  go_wp2
  go_region
  go_wp2
  go_ret
  exact ⟨rfl, ((Bel.rfl_ w).al _).dr, Blk.new w _ _⟩

end Go.Proofs.Ytdfbhlehfbckjaa
