/- What holds at each event by what held at the one ahead. Each lemma states its own conditions. -/
import Derived.Test.YtegknpffiaeohaaDoorQryE
import Derived.Shelf.Abstract
namespace Go.Proofs.YtegknpffiaeohaaDoor
open Go.RowKit

theorem Sl.own_bool {w : World} {base : Nat} {e : TypeId} {v : Value} {n : Nat} {xs : List Bool} (h : w.ownsRow base e 1 v n (xs.map Value.bool)) (hn : n = xs.length) : Sl boolR w v xs :=
  Sl.own (r := boolR) h hn fun k x hx => by
    have hl : k < xs.length := (List.getElem?_eq_some_iff.1 hx).1
    show _ = [_]
    simp only [boolR, Nat.mul_one]
    rw [List.drop_eq_getElem_cons (by simpa using hl)]
    simp [(List.getElem?_eq_some_iff.1 hx).2]
theorem elBool : Elem Tryd.prog 38 4 1 1 := Elem.mk_ (z := .bool false) Tryd.underlying38 (by kernel_rfl) rfl (by decide)

/-- a row of the call's own that reads as a list of truths -/
def Bs (w : World) (base : Nat) (v : Value) (xs : List Bool) : Prop := w.ownsRow base 4 1 v xs.length (xs.map Value.bool)
theorem Bs.sl {w : World} {base : Nat} {v : Value} {xs : List Bool} (h : Bs w base v xs) : Sl boolR w v xs := Sl.own_bool h rfl
theorem own_mono {w : World} {base base' : Nat} {e : TypeId} {size : Nat} {v : Value} {n : Nat} {xs : List Value} (h : w.ownsRow base e size v n xs) (hb : base' ≤ base) : w.ownsRow base' e size v n xs := by
  refine ⟨h.1, ?_⟩
  rcases h.2 with hn | ⟨g, cap, cur, h1, h2, rest⟩
  · exact .inl hn
  · exact .inr ⟨g, cap, cur, h1, Nat.le_trans hb h2, rest⟩

/-- what was, behind so many -/
def fw (g : Nat → Bool → Bool) (start : Bool) : Nat → Bool
  | 0 => start
  | i + 1 => g i (fw g start i)
def fwd (g : Nat → Bool → Bool) (start : Bool) (n : Nat) : List Bool := (List.range n).map fun i => fw g start (i + 1)
theorem fwd_succ (g : Nat → Bool → Bool) (start : Bool) (n : Nat) : fwd g start (n + 1) = fwd g start n ++ [fw g start (n + 1)] := by
  unfold fwd
  rw [List.range_succ, List.map_append]
  rfl
theorem fwd_length (g : Nat → Bool → Bool) (start : Bool) (n : Nat) : (fwd g start n).length = n := by simp [fwd]
theorem fwd_congr {g h : Nat → Bool → Bool} {start : Bool} {n : Nat} (e : ∀ i, i < n → ∀ b, g i b = h i b) : fwd g start n = fwd h start n := by
  have : ∀ i, i ≤ n → fw g start i = fw h start i := by
    intro i
    induction i with
    | zero => intro _; rfl
    | succ i ih => intro hi; rw [fw, fw, ih (by omega), e i (by omega)]
  unfold fwd
  apply List.map_congr_left
  intro i hi
  rw [List.mem_range] at hi
  exact this (i + 1) (by omega)

set_option maxRecDepth 20000 in
theorem forward1_any (n : Nat) (hn : n ≤ 4000) (start : Bool) (fn : FuncId) (hen : ∀ args w, (callFunc fn args).run Tryd.prog w = .ok (.enter fn args) w) (B : Nat) (g : Nat → Bool → Bool) (w : World)
    (hf : ∀ (i : Nat) (was : Bool) (W : World), i < n → Bel w W → Calls Tryd.prog fn #[.int .i64 i, .bool was, .pointer (some ⟨B, 0, none⟩)] W fun r w' => r = .returned (.bool (g i was)) ∧ Bel W w') :
    Calls Tryd.prog 52 #[.int .i64 n, .bool start, .func (.func fn) #[] #[.pointer (some ⟨B, 0, none⟩)]] w fun r w' => ∃ v, r = .returned v ∧ Bs w' w.heap.size v (fwd g start n) ∧ Bel w w' := by
  have HF := Lib.hid hf; clear hf
  go_enter Tryd.func52, Tryd.ntmps52
  go_wp2
  go_loopw [7, 8, 9, 12] (fun o b _ p wr => ∃ (i : Nat), p = .int .i64 i ∧ i ≤ n ∧ b = .bool (fw g start i) ∧ Hid (wr.ownsRow w.heap.size 4 1 o i ((fwd g start i).map Value.bool)) ∧ Hid (Bel w wr)) (fun _ _ _ p _ => n - (intOf p).toNat)
  case atStart => exact ⟨0, rfl, by omega, rfl, World.ownsRow_nil _ _ _ _, Bel.rfl_ w⟩
  case round =>
    obtain ⟨i, rfl, hi, rfl, HO, HB⟩ := hrel
    by_cases hlt : i < n
    · have hfs : Hid (fw g start (i + 1) = g i (fw g start i)) := Lib.hid rfl
      generalize fw g start i = was at *
      go_wp2_with fail
      refine (HF.out i was _ hlt HB.out).mono ?_
      rintro r w1 ⟨rfl, hb⟩
      rw [← hfs.out]
      have hb' := Lib.hid hb; clear hb
      have HO1 := Lib.hid (hb'.out.own HO.out)
      have HB1 := Lib.hid (HB.out.tr hb'.out)
      generalize hz : fw g start (i + 1) = z at *
      have HZ := Lib.hid hz; clear hz
      go_wp2_with (at_builtin; go_loud (refine wpl_app w1 rfl (.tmp 19) (.tmp 21) 38 rfl w.heap.size elBool u7 i _ rfl HO1.out [.bool z] rfl rfl (by simp [Value.oneCell']) (by simp only [maxLen]; omega) (by omega) HB1.out.size ?_); intro gg cap w2 hown hg _; have HO2 := Lib.hid hown; have HG2 := Lib.hid hg; clear hown hg)
      go_roundw
      case rel => exact ⟨i + 1, by go_num, by omega, by rw [HZ.out], (by unfold Hid; rw [fwd_succ, List.map_append, HZ.out]; exact HO2.out), Below.ofGrown HB1.out HO1.out HG2.out (Nat.le_refl _) HB1.out.size⟩
      case measure => simp [intOf]; omega
    · obtain rfl : i = n := by omega
      go_wp2
      go_ret
      exact ⟨_, rfl, (by unfold Bs; rw [fwd_length]; exact HO.out), HB.out⟩

set_option maxRecDepth 20000 in
theorem forward2_any (n : Nat) (hn : n ≤ 4000) (start : Bool) (fn : FuncId) (hen : ∀ args w, (callFunc fn args).run Tryd.prog w = .ok (.enter fn args) w) (B C : Nat) (g : Nat → Bool → Bool) (w : World)
    (hf : ∀ (i : Nat) (was : Bool) (W : World), i < n → Bel w W → Calls Tryd.prog fn #[.int .i64 i, .bool was, .pointer (some ⟨B, 0, none⟩), .pointer (some ⟨C, 0, none⟩)] W fun r w' => r = .returned (.bool (g i was)) ∧ Bel W w') :
    Calls Tryd.prog 52 #[.int .i64 n, .bool start, .func (.func fn) #[] #[.pointer (some ⟨B, 0, none⟩), .pointer (some ⟨C, 0, none⟩)]] w fun r w' => ∃ v, r = .returned v ∧ Bs w' w.heap.size v (fwd g start n) ∧ Bel w w' := by
  have HF := Lib.hid hf; clear hf
  go_enter Tryd.func52, Tryd.ntmps52
  go_wp2
  go_loopw [7, 8, 9, 12] (fun o b _ p wr => ∃ (i : Nat), p = .int .i64 i ∧ i ≤ n ∧ b = .bool (fw g start i) ∧ Hid (wr.ownsRow w.heap.size 4 1 o i ((fwd g start i).map Value.bool)) ∧ Hid (Bel w wr)) (fun _ _ _ p _ => n - (intOf p).toNat)
  case atStart => exact ⟨0, rfl, by omega, rfl, World.ownsRow_nil _ _ _ _, Bel.rfl_ w⟩
  case round =>
    obtain ⟨i, rfl, hi, rfl, HO, HB⟩ := hrel
    by_cases hlt : i < n
    · have hfs : Hid (fw g start (i + 1) = g i (fw g start i)) := Lib.hid rfl
      generalize fw g start i = was at *
      go_wp2_with fail
      refine (HF.out i was _ hlt HB.out).mono ?_
      rintro r w1 ⟨rfl, hb⟩
      rw [← hfs.out]
      have hb' := Lib.hid hb; clear hb
      have HO1 := Lib.hid (hb'.out.own HO.out)
      have HB1 := Lib.hid (HB.out.tr hb'.out)
      generalize hz : fw g start (i + 1) = z at *
      have HZ := Lib.hid hz; clear hz
      go_wp2_with (at_builtin; go_loud (refine wpl_app w1 rfl (.tmp 19) (.tmp 21) 38 rfl w.heap.size elBool u7 i _ rfl HO1.out [.bool z] rfl rfl (by simp [Value.oneCell']) (by simp only [maxLen]; omega) (by omega) HB1.out.size ?_); intro gg cap w2 hown hg _; have HO2 := Lib.hid hown; have HG2 := Lib.hid hg; clear hown hg)
      go_roundw
      case rel => exact ⟨i + 1, by go_num, by omega, by rw [HZ.out], (by unfold Hid; rw [fwd_succ, List.map_append, HZ.out]; exact HO2.out), Below.ofGrown HB1.out HO1.out HG2.out (Nat.le_refl _) HB1.out.size⟩
      case measure => simp [intOf]; omega
    · obtain rfl : i = n := by omega
      go_wp2
      go_ret
      exact ⟨_, rfl, (by unfold Bs; rw [fwd_length]; exact HO.out), HB.out⟩

end Go.Proofs.YtegknpffiaeohaaDoor
