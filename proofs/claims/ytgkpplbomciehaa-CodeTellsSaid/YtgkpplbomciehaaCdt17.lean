/- slices.Grow and slices.Concat of expressions: walked. slices.Concat of two lists of expressions: walked. Each lemma states its own conditions. -/
import Derived.Test.YtgkpplbomciehaaCdt16
import Derived.Lib.AppendZeros
namespace Go.Proofs.Ytgkpplbomciehaa
open Go.RowKit
set_option maxRecDepth 20000 in
theorem grow_any (n : Nat) (hn : n ≤ 8) (w : World) : Calls Try.prog 165 #[.slice none 0 0, .int .i64 n] w fun r w' => ∃ v, r = .returned v ∧ w'.ownsRow w.heap.size 47 3 v 0 [] ∧ Bel w w' := by
  have dn : decide ((n : Int) < 0) = false := decide_eq_false (by omega)
  rcases Nat.eq_zero_or_pos n with h0 | h0
  · subst h0
    go_enter Try.func165, Try.ntmps165
    go_wp2
    go_ret
    exact ⟨_, rfl, World.ownsRow_nil _ _ _ _, Bel.rfl_ _⟩
  · have dp : decide ((n : Int) > 0) = true := decide_eq_true (by omega)
    obtain ⟨i, z, hi, hz, hz1, hz2, hz3⟩ := elPE.inf
    have hc1 := grownCap_ge w n 0 47
    have hc2 := grownCap_le_maxLen w n 0 47 (by simp only [maxLen]; omega)
    have hrun := fun ty => Lib.run_append_nil_zeros (P := Try.prog) w 45 3 ty 47 i z .i64 .i64 elPE.und (by kernel_rfl) hi hz n h0 (by omega) (by omega) (by rw [hz2]; omega)
    generalize hcap : grownCap w n 0 47 = cap at *
    have HB : Hid (Bel w (w.drew.alloc (.cells (Builtin.zeroCells z.cells n ++ Builtin.zeroCells z.cells (cap - n)) 47))) := Lib.hid ((Bel.rfl_ w).dr.al _)
    have HO : Hid ((w.drew.alloc (.cells (Builtin.zeroCells z.cells n ++ Builtin.zeroCells z.cells (cap - n)) 47)).ownsRow w.heap.size 47 3 (.slice (some ⟨w.heap.size, 0, none⟩) 0 cap) 0 []) := Lib.hid (by
      refine ⟨rfl, .inr ⟨w.heap.size, cap, _, rfl, Nat.le_refl _, heap_alloc_new w.drew _, Nat.zero_le _, hc2, ?_, by simp⟩⟩
      rw [Array.size_append, size_zeroCells, size_zeroCells, hz3, ← Nat.add_mul]
      congr 1
      omega)
    generalize hW : w.drew.alloc (.cells (Builtin.zeroCells z.cells n ++ Builtin.zeroCells z.cells (cap - n)) 47) = W at *
    have hcn : ¬ cap = 0 := by omega
    go_enter Try.func165, Try.ntmps165
    go_wp2_with (at_builtin; refine Lib.wpList_append_run _ rfl _ _ _ _ rfl _ _ rfl rfl _ _ (hrun _) ?_)
    go_wp2
    go_ret
    exact ⟨_, rfl, HO.out, HB.out⟩
/-- the cells of a slice, one behind the other -/
theorem Sl.flat {α : Type} {r : Rep α} {w : World} {v : Value} {xs : List α} (hone : ∀ cs x, r.R w cs x → ∀ u ∈ cs, u.oneCell' = true) (h : Sl r w v xs) : ∃ A c cells, v = .slice A xs.length c ∧ (A = none → c = 0) ∧ cells.length = xs.length * r.size ∧ (∀ u ∈ cells, u.oneCell' = true) ∧ (0 < xs.length → ∃ b o, A = some ⟨b, o, none⟩ ∧ CellsAt w b o cells) ∧ ∀ i x, xs[i]? = some x → r.R w ((cells.drop (i * r.size)).take r.size) x := by
  obtain ⟨A, c, rfl, -, hm, hA⟩ := h
  rcases Nat.eq_zero_or_pos xs.length with h0 | h0
  · refine ⟨A, c, [], rfl, hm.2, by rw [h0, Nat.zero_mul]; rfl, fun u hu => by simp at hu, fun h => by omega, fun i x hx => by have := (List.getElem?_eq_some_iff.1 hx).1; omega⟩
  obtain ⟨b, o, rfl, hx⟩ := hA h0
  have key : ∀ (n : Nat), n ≤ xs.length → ∃ cells : List Value, cells.length = n * r.size ∧ (∀ u ∈ cells, u.oneCell' = true) ∧ CellsAt w b o cells ∧ ∀ i x, i < n → xs[i]? = some x → r.R w ((cells.drop (i * r.size)).take r.size) x := by
    intro n
    induction n with
    | zero => intro _; exact ⟨[], by simp, fun u hu => by simp at hu, fun j u hu => by simp at hu, fun i x hi => by omega⟩
    | succ n ih =>
      intro hn
      obtain ⟨cells, h1, h2, h3, h4⟩ := ih (by omega)
      obtain ⟨cs, h5, h6⟩ := hx n _ (List.getElem?_eq_getElem (show n < xs.length by omega))
      have hl := r.len h5
      refine ⟨cells ++ cs, by rw [List.length_append, h1, hl, Nat.add_mul, Nat.one_mul], fun u hu => ?_, fun j u hu => ?_, fun i x hi hxi => ?_⟩
      · rcases List.mem_append.1 hu with hu | hu
        · exact h2 u hu
        · exact hone _ _ h5 u hu
      · rcases Nat.lt_or_ge j cells.length with hj | hj
        · rw [List.getElem?_append_left hj] at hu
          exact h3 j u hu
        · rw [List.getElem?_append_right hj] at hu
          have := h6 _ u hu
          rw [h1] at this
          rw [show o + j = o + n * r.size + (j - n * r.size) by omega]
          exact this
      · rcases Nat.lt_or_ge i n with hin | hin
        · have hle : (i + 1) * r.size ≤ n * r.size := Nat.mul_le_mul_right _ hin
          rw [Nat.add_mul, Nat.one_mul] at hle
          rw [List.drop_append_of_le_length (by omega), List.take_append_of_le_length (by rw [List.length_drop]; omega)]
          exact h4 i x hin hxi
        · obtain rfl : i = n := by omega
          rw [← h1, List.drop_left, List.take_of_length_le (by omega)]
          rw [List.getElem?_eq_getElem (show i < xs.length by omega)] at hxi
          obtain rfl := Option.some.inj hxi
          exact h5
  obtain ⟨cells, h1, h2, h3, h4⟩ := key xs.length (Nat.le_refl _)
  exact ⟨_, c, cells, rfl, hm.2, h1, h2, fun _ => ⟨b, o, rfl, h3⟩, fun i x hxi => h4 i x (List.getElem?_eq_some_iff.1 hxi).1 hxi⟩
/-- a row of the call's own that reads as expressions of an elder world -/
def RowE (w0 w : World) (B : Nat) (v : Value) (xs : List PE) : Prop := ∃ cells, w.ownsRow B 47 3 v xs.length cells ∧ (∀ u ∈ cells, u.oneCell' = true) ∧ ∀ (i : Nat) (x : PE), xs[i]? = some x → PER w0 x ((cells.drop (i * 3)).take 3)
theorem RowE.sl {w0 w : World} {B : Nat} {v : Value} {xs : List PE} (h : RowE w0 w B v xs) (hb : Bel w0 w) : Sl peR w v xs := by
  obtain ⟨cells, h1, -, h3⟩ := h
  exact Sl.own (r := peR) h1 rfl fun i x hx => (h3 i x hx).keep hb
theorem RowE.app {w0 w w' : World} {B : Nat} {v v' : Value} {xs ys : List PE} {cells news : List Value} (h1 : w.ownsRow B 47 3 v xs.length cells) (h2 : ∀ u ∈ cells, u.oneCell' = true) (h3 : ∀ (i : Nat) (x : PE), xs[i]? = some x → PER w0 x ((cells.drop (i * 3)).take 3))
    (n2 : ∀ u ∈ news, u.oneCell' = true) (n3 : ∀ (i : Nat) (x : PE), ys[i]? = some x → PER w0 x ((news.drop (i * 3)).take 3)) (h : w'.ownsRow B 47 3 v' (xs.length + ys.length) (cells ++ news)) : RowE w0 w' B v' (xs ++ ys) := by
  refine ⟨cells ++ news, by rw [List.length_append]; exact h, fun u hu => ?_, fun i x hx => ?_⟩
  · rcases List.mem_append.1 hu with hu | hu
    · exact h2 u hu
    · exact n2 u hu
  · rcases Nat.lt_or_ge i xs.length with hi | hi
    · rw [List.getElem?_append_left hi] at hx
      rw [chunk_left h1.1 hi]
      exact h3 i x hx
    · rw [List.getElem?_append_right hi] at hx
      rw [chunk_right h1.1 hi]
      exact n3 _ x hx
set_option maxRecDepth 20000 in
set_option maxHeartbeats 2000000 in
theorem concat_any (w0 w : World) (G : Nat) (v1 v2 : Value) (xs ys : List PE) (c : Nat) (hbk : Blk w G 45 #[v1, v2]) (_hc : 2 ≤ c ∧ c ≤ maxLen) (hb0 : Bel w0 w) (h8 : xs.length + ys.length ≤ 8)
    (hx : ∃ A c cells, v1 = .slice A xs.length c ∧ (A = none → c = 0) ∧ cells.length = xs.length * 3 ∧ (∀ u ∈ cells, u.oneCell' = true) ∧ (0 < xs.length → ∃ b o, A = some ⟨b, o, none⟩ ∧ CellsAt w b o cells) ∧ ∀ (i : Nat) (x : PE), xs[i]? = some x → PER w0 x ((cells.drop (i * 3)).take 3))
    (hy : ∃ A c cells, v2 = .slice A ys.length c ∧ (A = none → c = 0) ∧ cells.length = ys.length * 3 ∧ (∀ u ∈ cells, u.oneCell' = true) ∧ (0 < ys.length → ∃ b o, A = some ⟨b, o, none⟩ ∧ CellsAt w b o cells) ∧ ∀ (i : Nat) (x : PE), ys[i]? = some x → PER w0 x ((cells.drop (i * 3)).take 3)) :
    Calls Try.prog 155 #[.slice (some ⟨G, 0, none⟩) 2 c] w fun r w' => ∃ v, r = .returned v ∧ Sl peR w' v (xs ++ ys) ∧ Bel w w' := by
  obtain ⟨A1, c1, ce1, rfl, e1, e2, e3, e4, e5⟩ := hx
  obtain ⟨A2, c2, ce2, rfl, f1, f2, f3, f4, f5⟩ := hy
  have x0 := hbk.cell (i := 0) (v := .slice A1 xs.length c1) rfl
  have x1 := hbk.cell (i := 1) (v := .slice A2 ys.length c2) rfl
  have HE := Lib.hid (And.intro e1 (And.intro e2 (And.intro e3 (And.intro e4 e5))))
  have HF := Lib.hid (And.intro f1 (And.intro f2 (And.intro f3 (And.intro f4 f5))))
  have HG := Lib.hid (grow_any (xs.length + ys.length) h8)
  have HB0 := Lib.hid hb0
  have HBK := Lib.hid hbk
  clear e1 e2 e3 e4 e5 f1 f2 f3 f4 f5 hb0 hbk
  go_enter Try.func155, Try.ntmps155
  go_wp2
  go_loopw [3, 11] (fun a i wr => ∃ j n : Nat, i = .int .i64 j ∧ a = .int .i64 n ∧ Hid (Bel w wr) ∧ (j = 0 ∧ n = 0 ∨ j = 1 ∧ n = xs.length ∨ j = 2 ∧ n = xs.length + ys.length)) (fun _ i _ => 2 - (intOf i).toNat)
  case atStart => exact ⟨0, 0, rfl, rfl, Bel.rfl_ _, .inl ⟨rfl, rfl⟩⟩
  case round =>
    obtain ⟨j, n, rfl, rfl, HW, hj⟩ := hrel
    replace x0 := HW.out.cell x0
    replace x1 := HW.out.cell x1
    rcases hj with ⟨rfl, rfl⟩ | ⟨rfl, rfl⟩ | ⟨rfl, rfl⟩
    · have dn : decide ((xs.length : Int) < 0) = false := decide_eq_false (by omega)
      go_wp2
      go_roundw
      case rel => exact ⟨1, xs.length, by go_num, by go_num, HW, .inr (.inl ⟨rfl, rfl⟩)⟩
      case measure => simp [intOf]
    · have dn : decide ((xs.length : Int) + ys.length < 0) = false := decide_eq_false (by omega)
      go_wp2
      go_roundw
      case rel => exact ⟨2, xs.length + ys.length, by go_num, by go_num, HW, .inr (.inr ⟨rfl, rfl⟩)⟩
      case measure => simp [intOf]
    · go_wp2_with fail
      refine (HG.out _).mono ?_
      rintro r w1 ⟨v, rfl, ho, hb⟩
      have HO := Lib.hid (own_base ho HW.out.size)
      have HB1 := Lib.hid (HW.out.tr hb)
      have y0 := hb.cell x0
      have y1 := hb.cell x1
      clear ho hb x0 x1
      go_wp2
      go_loopw [6, 27] (fun a i wr => ∃ j : Nat, i = .int .i64 j ∧ Hid (Bel w wr) ∧ (j = 0 ∧ Hid (RowE w0 wr w.heap.size a []) ∨ j = 1 ∧ Hid (RowE w0 wr w.heap.size a xs) ∨ j = 2 ∧ Hid (RowE w0 wr w.heap.size a (xs ++ ys)))) (fun _ i _ => 2 - (intOf i).toNat)
      case atStart => exact ⟨0, rfl, HB1, .inl ⟨rfl, [], HO.out, fun u hu => by simp at hu, fun i x hx => by simp at hx⟩⟩
      case round =>
        obtain ⟨j, rfl, HB, hj⟩ := hrel
        have z0 := HB.out.cell (HBK.out.cell (i := 0) (v := .slice A1 xs.length c1) rfl)
        have z1 := HB.out.cell (HBK.out.cell (i := 1) (v := .slice A2 ys.length c2) rfl)
        have hsz := Lib.hid HB.out.size
        clear HO HB1 y0 y1
        rcases hj with ⟨rfl, HR⟩ | ⟨rfl, HR⟩ | ⟨rfl, HR⟩
        · obtain ⟨cells, h1, h2, h3⟩ := HR.out
          have HO := Lib.hid h1
          have H2 := Lib.hid h2
          have H3 := Lib.hid h3
          clear h1 h2 h3 HR
          go_wp2_with (at_builtin; refine wpl_appAll wr rfl (.tmp 31) (.tmp 32) 45 rfl w.heap.size elPE _ ([] : List PE).length cells rfl HO.out A1 xs.length c1 ce1 rfl HE.out.2.1 HE.out.1 (fun hp => (HE.out.2.2.2.1 hp).elim fun b h => h.elim fun o h => ⟨b, o, h.1, h.2.keep HB.out⟩) HE.out.2.2.1 (by simp only [maxLen, List.length_nil]; omega) (by simp only [List.length_nil]; omega) hsz.out ?_; intro v4 w4 hown4 hg4 _; have HO4 := Lib.hid hown4; have HG4 := Lib.hid hg4; clear hown4 hg4)
          go_roundw
          case rel => exact ⟨1, by go_num, Lib.hid (Below.grown HB.out HG4.out hsz.out (fun k hk => by have := (HO.out.lt k hk).1; omega)), .inr (.inl ⟨rfl, RowE.app (xs := []) (ys := xs) HO.out H2.out H3.out HE.out.2.2.1 HE.out.2.2.2.2 HO4.out⟩)⟩
          case measure => simp [intOf]
        · obtain ⟨cells, h1, h2, h3⟩ := HR.out
          have HO := Lib.hid h1
          have H2 := Lib.hid h2
          have H3 := Lib.hid h3
          clear h1 h2 h3 HR
          go_wp2_with (at_builtin; refine wpl_appAll wr rfl (.tmp 31) (.tmp 32) 45 rfl w.heap.size elPE _ xs.length cells rfl HO.out A2 ys.length c2 ce2 rfl HF.out.2.1 HF.out.1 (fun hp => (HF.out.2.2.2.1 hp).elim fun b h => h.elim fun o h => ⟨b, o, h.1, h.2.keep HB.out⟩) HF.out.2.2.1 (by simp only [maxLen]; omega) (by omega) hsz.out ?_; intro v4 w4 hown4 hg4 _; have HO4 := Lib.hid hown4; have HG4 := Lib.hid hg4; clear hown4 hg4)
          go_roundw
          case rel => exact ⟨2, by go_num, Lib.hid (Below.grown HB.out HG4.out hsz.out (fun k hk => by have := (HO.out.lt k hk).1; omega)), .inr (.inr ⟨rfl, RowE.app (xs := xs) (ys := ys) HO.out H2.out H3.out HF.out.2.2.1 HF.out.2.2.2.2 HO4.out⟩)⟩
          case measure => simp [intOf]
        · go_wp2
          go_ret
          exact ⟨_, rfl, HR.out.sl (HB0.out.tr HB.out), HB.out⟩
end Go.Proofs.Ytgkpplbomciehaa
