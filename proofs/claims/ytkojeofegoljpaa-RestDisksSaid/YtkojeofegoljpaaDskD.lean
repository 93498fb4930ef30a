/- A sector read: both walked; lists copied. Each lemma states its own conditions. -/
import Derived.Test.YtkojeofegoljpaaDskC
import Derived.Lib.SliceRun
namespace Go.Proofs.Ytkojeofegoljpaa
open Go.RowKit

/-- what a sector reads as, by what was written on it -/
def lw (n : Int) (s : ByteArray) : List Wr → ByteArray
  | [] => s
  | x :: xs => lw n (if x.sector = n then x.bytes else s) xs
theorem lw_take {n : Int} {s : ByteArray} {l : List Wr} {k : Nat} {x : Wr} (hx : l[k]? = some x) : lw n s (l.take (k + 1)) = if x.sector = n then x.bytes else lw n s (l.take k) := by
  rw [List.take_add_one, hx]
  have : ∀ (a : List Wr) (s : ByteArray), lw n s (a ++ [x]) = if x.sector = n then x.bytes else lw n s a := by
    intro a
    induction a with
    | nil => intro s; rfl
    | cons y ys ih => intro s; exact ih _
  exact this _ _

set_option maxRecDepth 20000 in
theorem readOf_any (d : Dk) (val : Value) (n : Nat) (s0 : ByteArray) (w : World) (h : DkV w d val) (hn : d.kept[n]? = some s0) :
    Calls Try.prog 15 #[val, .int .i64 n] w fun r w' => r = .returned (.string (lw n s0 d.written)) ∧ Bel w w' := by
  obtain ⟨A1, c1, A2, c2, rfl, h1, h2⟩ := h
  obtain ⟨hl1, hl2⟩ := dkLen h1 h2
  have H1 := Lib.hid h1.at_
  have H2 := Lib.hid h2.at_
  clear h1 h2
  generalize d.kept = ks at *
  generalize d.written = ws at *
  have hnl : n < ks.length := (List.getElem?_eq_some_iff.1 hn).1
  obtain ⟨b1, o1, rfl, hA1⟩ := H1.out (by omega)
  have hB0 : Bel w (w.alloc (.cells #[.slice (some ⟨b1, o1, none⟩) ks.length c1, .slice A2 ws.length c2] 25)) := (Bel.rfl_ w).al _
  have x0 := hB0.cell (strR.cell hA1 hn)
  have q1 := (Blk.new w 25 #[.slice (some ⟨b1, o1, none⟩) ks.length c1, .slice A2 ws.length c2]).cell (i := 1) rfl
  have HB0 := Lib.hid hB0
  clear hB0 hA1 hn H1
  go_enter Try.func15, Try.ntmps15
  go_wp2
  go_loopw [5, 6] (fun s i wr => ∃ (k : Nat) (y : ByteArray), i = .int .i64 k ∧ s = .string y ∧ k ≤ ws.length ∧ Hid (lw n s0 (ws.take k) = y) ∧ wr = w.alloc (.cells #[.slice (some ⟨b1, o1, none⟩) ks.length c1, .slice A2 ws.length c2] 25)) (fun _ i _ => ws.length - (intOf i).toNat)
  case atStart => exact ⟨0, s0, rfl, rfl, by omega, rfl, rfl⟩
  case round =>
    obtain ⟨k, y, rfl, rfl, hk, HL, rfl⟩ := hrel
    by_cases hlt : k < ws.length
    · obtain ⟨x, hx⟩ : ∃ s, ws[k]? = some s := ⟨_, List.getElem?_eq_getElem hlt⟩
      obtain ⟨b, o, rfl, hA⟩ := H2.out (by omega)
      obtain ⟨y0, y1⟩ := wrR.cells hA hx
      have y0 := HB0.out.cell y0
      have y1 := HB0.out.cell y1
      have HS : Hid (lw n s0 (ws.take (k + 1)) = if x.sector = n then x.bytes else y) := Lib.hid (by rw [lw_take hx, HL.out])
      clear hA hx
      generalize x.sector = xs at *
      generalize x.bytes = xb at *
      by_cases he : xs = n
      · rw [if_pos he] at HS
        subst he
        go_wp2
        go_roundw
        case rel => exact ⟨k + 1, xb, by go_num, rfl, by omega, HS, trivial⟩
        case measure => simp [intOf]; omega
      · rw [if_neg he] at HS
        go_wp2
        go_roundw
        case rel => exact ⟨k + 1, y, by go_num, rfl, by omega, HS, trivial⟩
        case measure => simp [intOf]; omega
    · have HF : Hid (lw n s0 ws = y) := Lib.hid (by have := HL.out; rw [List.take_of_length_le (by omega)] at this; exact this)
      go_wp2
      go_ret
      exact ⟨by rw [HF.out]; rfl, HB0.out⟩

/-- what a Read hands back -/
def Dk.read (d : Dk) (n : Int) : ByteArray := if d.one n = 0 then lw n (d.kept[n.toNat]?.getD ⟨#[]⟩) d.written else ⟨#[]⟩
set_option maxRecDepth 20000 in
theorem read_any (d : Dk) (val : Value) (n : Int) (w : World) (h : DkV w d val) (ho : d.ok) :
    Calls Try.prog 9 #[val, .int .i64 n] w fun r w' => r = .returned (.tuple #[.string (d.read n), .int .i64 (d.one n)]) ∧ Bel w w' := by
  have HC := Lib.hid (fun W (hb : Bel w W) => one_any d val n W (h.keep hb) ho)
  have HD : Hid ((if d.one n = 0 then lw n (d.kept[n.toNat]?.getD ⟨#[]⟩) d.written else ⟨#[]⟩) = d.read n) := Lib.hid rfl
  have HZ : Hid (d.one n = 0 → d.err = 0 ∧ 0 ≤ n ∧ n < d.kept.length) := Lib.hid (by
    unfold Dk.one
    intro h
    split at h
    · split at h
      · exact ⟨‹_›, ‹_›⟩
      · cases h
    · exact absurd h ‹_›)
  obtain ⟨A1, c1, A2, c2, rfl, h1, h2⟩ := h
  obtain ⟨hl1, hl2⟩ := dkLen h1 h2
  have H1 := Lib.hid h1.at_
  have H2 := Lib.hid h2.at_
  clear h1 h2 ho
  generalize d.read n = T at *
  generalize d.one n = E at *
  generalize d.err = E0 at *
  generalize d.kept = ks at *
  generalize d.written = ws at *
  go_enter Try.func9, Try.ntmps9
  go_wp2_with fail
  refine (HC.out _ ((Bel.rfl_ w).al _)).mono ?_
  rintro r w1 ⟨rfl, hb⟩
  have q0 := ((Blk.new w 25 #[.slice A1 ks.length c1, .slice A2 ws.length c2]).keep hb).cell (i := 0) rfl
  have q1 := ((Blk.new w 25 #[.slice A1 ks.length c1, .slice A2 ws.length c2]).keep hb).cell (i := 1) rfl
  have HB := Lib.hid (((Bel.rfl_ w).al _).tr hb)
  clear hb HC
  by_cases hE : E = 0
  · rw [if_pos hE] at HD
    subst hE
    obtain ⟨_, hn0, hn1⟩ := HZ.out rfl
    obtain ⟨m, rfl⟩ : ∃ m : Nat, n = m := ⟨n.toNat, by omega⟩
    rw [Int.toNat_natCast] at HD
    have hml : m < ks.length := by omega
    obtain ⟨s0, hs0⟩ : ∃ s, ks[m]? = some s := ⟨_, List.getElem?_eq_getElem hml⟩
    rw [hs0, Option.getD_some] at HD
    obtain ⟨b1, o1, rfl, hA1⟩ := H1.out (by omega)
    have x0 := HB.out.cell (strR.cell hA1 hs0)
    clear hA1 hs0 H1 HZ
    go_wp2
    go_loopw [7] (fun i wr => ∃ (k : Nat), i = .int .i64 ((k : Int) - 1) ∧ k ≤ ws.length ∧ Hid (lw m s0 (ws.take k) = T) ∧ wr = w1) (fun i _ => (intOf i + 1).toNat)
    case atStart => exact ⟨ws.length, by go_num, Nat.le_refl _, Lib.hid (by rw [List.take_length]; exact HD.out), rfl⟩
    case round =>
      obtain ⟨k, rfl, hk, HL, rfl⟩ := hrel
      cases k with
      | zero =>
        have HF : Hid (s0 = T) := Lib.hid HL.out
        go_wp2
        go_ret2
        exact ⟨by rw [← HF.out]; rfl, HB.out⟩
      | succ k =>
        have hki : ((k + 1 : Nat) : Int) - 1 = k := by omega
        rw [hki]
        obtain ⟨x, hx⟩ : ∃ s, ws[k]? = some s := ⟨_, List.getElem?_eq_getElem (by omega)⟩
        obtain ⟨b, o, rfl, hA⟩ := H2.out (by omega)
        obtain ⟨y0, y1⟩ := wrR.cells hA hx
        have y0 := HB.out.cell y0
        have y1 := HB.out.cell y1
        have HS : Hid ((if x.sector = m then x.bytes else lw m s0 (ws.take k)) = T) := Lib.hid (by rw [← HL.out, lw_take hx])
        clear hA hx
        generalize x.sector = xs at *
        generalize x.bytes = xb at *
        by_cases he : xs = m
        · rw [if_pos he] at HS
          subst he
          go_wp2
          go_ret2
          exact ⟨by rw [← HS.out]; rfl, HB.out⟩
        · rw [if_neg he] at HS
          go_wp2
          go_roundw
          case rel => exact ⟨k, by go_num, by omega, HS, trivial⟩
          case measure => simp [intOf]
  · rw [if_neg hE] at HD
    go_wp2
    go_ret2
    exact ⟨by rw [← HD.out]; rfl, HB.out⟩

theorem elStr : Elem Try.prog 22 9 1 16 := Elem.mk_ (z := .string ⟨#[]⟩) Try.underlying22 (by kernel_rfl) rfl (by decide)
theorem elWr : Elem Try.prog 23 71 2 24 := Elem.mk_ (z := .agg #[.int .i64 0, .string ⟨#[]⟩]) Try.underlying23 (by kernel_rfl) rfl (by decide)
def Wr.cells (x : Wr) : List Value := [.int .i64 x.sector, .string x.bytes]
def wrCells (l : List Wr) : List Value := l.flatMap Wr.cells
theorem wrCells_length (l : List Wr) : (wrCells l).length = l.length * 2 := by
  induction l with
  | nil => rfl
  | cons x xs ih => unfold wrCells at *; rw [List.flatMap_cons, List.length_append, ih, List.length_cons]; simp [Wr.cells]; omega
theorem wrCells_snoc (l : List Wr) (x : Wr) : wrCells (l ++ [x]) = wrCells l ++ [.int .i64 x.sector, .string x.bytes] := by
  unfold wrCells
  rw [List.flatMap_append, List.flatMap_cons, List.flatMap_nil, List.append_nil]
  rfl
theorem wrCells_get : ∀ (c : List Wr) (k : Nat) (x : Wr), c[k]? = some x → ((wrCells c).drop (k * 2)).take 2 = [.int .i64 x.sector, .string x.bytes]
  | [], k, x, h => by simp at h
  | y :: ys, 0, x, h => by
    simp only [List.getElem?_cons_zero, Option.some.injEq] at h
    subst h
    rfl
  | y :: ys, k + 1, x, h => by
    have := wrCells_get ys k x (by simpa using h)
    rw [show (k + 1) * 2 = 2 + k * 2 by omega, ← List.drop_drop]
    exact this
theorem Sl.own_wrs {w : World} {base : Nat} {e : TypeId} {v : Value} {n : Nat} {xs : List Wr} (h : w.ownsRow base e 2 v n (wrCells xs)) (hn : n = xs.length) : Sl wrR w v xs :=
  Sl.own (r := wrR) h hn fun k x hx => wrCells_get xs k x hx
theorem Sl.own_str {w : World} {base : Nat} {e : TypeId} {v : Value} {n : Nat} {xs : List ByteArray} (h : w.ownsRow base e 1 v n (xs.map Value.string)) (hn : n = xs.length) : Sl strR w v xs :=
  Sl.own (r := strR) h hn fun k x hx => by
    have hl : k < xs.length := (List.getElem?_eq_some_iff.1 hx).1
    show _ = [_]
    simp only [strR, Nat.mul_one]
    rw [List.drop_eq_getElem_cons (by simpa using hl)]
    simp [(List.getElem?_eq_some_iff.1 hx).2]
theorem strs_cells {w : World} {b o : Nat} {xs : List ByteArray} (h : ∀ k x, xs[k]? = some x → strR.At w b (o + k * strR.size) x) : CellsAt w b o (xs.map Value.string) := by
  intro j u hu
  rw [List.getElem?_map] at hu
  cases hx : xs[j]? with
  | none => rw [hx] at hu; cases hu
  | some x =>
    rw [hx] at hu
    obtain rfl := Option.some.inj hu
    exact strR.cell h hx
theorem wrs_cells : ∀ {w : World} {b o : Nat} {xs : List Wr}, (∀ k x, xs[k]? = some x → wrR.At w b (o + k * wrR.size) x) → CellsAt w b o (wrCells xs)
  | _, _, _, [], _ => fun j u hu => by simp [wrCells] at hu
  | w, b, o, x :: xs, h => by
    obtain ⟨cs, hc, hcs⟩ := h 0 x rfl
    have e : cs = [.int .i64 x.sector, .string x.bytes] := hc
    subst e
    have hx : ∀ k y, xs[k]? = some y → wrR.At w b (o + 2 + k * wrR.size) y := fun k y hy => by
      have := h (k + 1) y (by simpa using hy)
      rwa [show o + (k + 1) * wrR.size = o + 2 + k * wrR.size by simp only [wrR]; omega] at this
    have ih := wrs_cells hx
    intro j u hu
    unfold wrCells at hu
    rw [List.flatMap_cons] at hu
    by_cases hj : j < 2
    · rw [List.getElem?_append_left (by simpa [Wr.cells] using hj)] at hu
      have := hcs j u hu
      simpa using this
    · rw [List.getElem?_append_right (by simp [Wr.cells]; omega)] at hu
      have := ih (j - (Wr.cells x).length) u hu
      rw [show (Wr.cells x).length = 2 from rfl] at this
      rwa [show o + 2 + (j - 2) = o + j by omega] at this
theorem strs_one (xs : List ByteArray) : ∀ u ∈ xs.map Value.string, u.oneCell' = true := by
  intro u hu
  obtain ⟨x, _, rfl⟩ := List.mem_map.1 hu
  rfl
theorem wrs_one (xs : List Wr) : ∀ u ∈ wrCells xs, u.oneCell' = true := by
  intro u hu
  obtain ⟨x, _, hx⟩ := List.mem_flatMap.1 hu
  simp only [Wr.cells, List.mem_cons, List.not_mem_nil, or_false] at hx
  rcases hx with rfl | rfl <;> rfl

set_option maxRecDepth 20000 in
theorem cloneS_any (v : Value) (l : List ByteArray) (w : World) (h : Sl strR w v l) (hl : l.length ≤ 600) :
    Calls Try.prog 67 #[v] w fun r w' => ∃ v', r = .returned v' ∧ w'.ownsRow w.heap.size 9 1 v' l.length (l.map Value.string) ∧ Bel w w' := by
  obtain ⟨A, c, rfl, hc, hm, hA⟩ := h
  have q22 : ∀ (w : World) (a : Option Addr) (n c n' c' : Nat), (binOp .eql 22 (.slice a n c) (.slice none n' c')).run Try.prog w = .ok (.bool a.isNone) w := fun w a n c n' c' => Lib.run_eql_slice_nil w _ _ a n c n' c' Try.underlying22
  cases A with
  | none =>
    obtain rfl := hm.2 rfl
    have h0 : l = [] := List.eq_nil_of_length_eq_zero (by omega)
    subst h0
    clear hA
    go_enter Try.func67, Try.ntmps67
    go_wp2
    go_ret
    exact ⟨_, rfl, World.ownsRow_nil _ _ _ _, Bel.rfl_ w⟩
  | some a =>
    have HA : Hid (0 < l.length → ∃ b off, some a = some ⟨b, off, none⟩ ∧ CellsAt (w.alloc (.cells #[] 9)) b off (l.map Value.string)) := Lib.hid fun hp => by
      obtain ⟨b, o, h1, h2⟩ := hA hp
      exact ⟨b, o, h1, (strs_cells h2).keep ((Bel.rfl_ w).al _)⟩
    clear hA
    go_enter Try.func67, Try.ntmps67
    go_wp2_with (at_builtin; go_loud (refine wpl_appAll (w.alloc (.cells #[] 9)) rfl (.tmp 5) (.tmp 6) 22 rfl w.heap.size elStr (.slice (some ⟨w.heap.size, 0, none⟩) 0 0) 0 [] rfl (World.ownsRow_made w #[] 0 (Nat.le_refl _) (Nat.zero_le _) rfl) (some a) l.length c (l.map Value.string) rfl (by simp []) (by simp) HA.out (strs_one l) (by simp only [maxLen]; omega) (by omega) (by simp) ?_); intro v' w' hown hg _; have HO := Lib.hid hown; have HG := Lib.hid hg; clear hown hg)
    go_ret
    refine ⟨_, rfl, by simpa using HO.out, ?_⟩
    exact Below.ofGrown (v := .slice (some ⟨w.heap.size, 0, none⟩) 0 0) ((Bel.rfl_ w).al _) (World.ownsRow_made (size := 1) w #[] 0 (Nat.le_refl _) (Nat.zero_le _) rfl) HG.out (Nat.le_refl _) (by simp)

set_option maxRecDepth 20000 in
theorem cloneW_any (v : Value) (l : List Wr) (w : World) (h : Sl wrR w v l) (hl : l.length ≤ 600) :
    Calls Try.prog 68 #[v] w fun r w' => ∃ v', r = .returned v' ∧ w'.ownsRow w.heap.size 71 2 v' l.length (wrCells l) ∧ Bel w w' := by
  obtain ⟨A, c, rfl, hc, hm, hA⟩ := h
  have q22 : ∀ (w : World) (a : Option Addr) (n c n' c' : Nat), (binOp .eql 23 (.slice a n c) (.slice none n' c')).run Try.prog w = .ok (.bool a.isNone) w := fun w a n c n' c' => Lib.run_eql_slice_nil w _ _ a n c n' c' Try.underlying23
  cases A with
  | none =>
    obtain rfl := hm.2 rfl
    have h0 : l = [] := List.eq_nil_of_length_eq_zero (by omega)
    subst h0
    clear hA
    go_enter Try.func68, Try.ntmps68
    go_wp2
    go_ret
    exact ⟨_, rfl, World.ownsRow_nil _ _ _ _, Bel.rfl_ w⟩
  | some a =>
    have HA : Hid (0 < l.length → ∃ b off, some a = some ⟨b, off, none⟩ ∧ CellsAt (w.alloc (.cells #[] 71)) b off (wrCells l)) := Lib.hid fun hp => by
      obtain ⟨b, o, h1, h2⟩ := hA hp
      exact ⟨b, o, h1, (wrs_cells h2).keep ((Bel.rfl_ w).al _)⟩
    clear hA
    go_enter Try.func68, Try.ntmps68
    go_wp2_with (at_builtin; go_loud (refine wpl_appAll (w.alloc (.cells #[] 71)) rfl (.tmp 5) (.tmp 6) 23 rfl w.heap.size elWr (.slice (some ⟨w.heap.size, 0, none⟩) 0 0) 0 [] rfl (World.ownsRow_made w #[] 0 (Nat.le_refl _) (Nat.zero_le _) rfl) (some a) l.length c (wrCells l) rfl (by simp [wrCells_length]) (by simp) HA.out (wrs_one l) (by simp only [maxLen]; omega) (by omega) (by simp) ?_); intro v' w' hown hg _; have HO := Lib.hid hown; have HG := Lib.hid hg; clear hown hg)
    go_ret
    refine ⟨_, rfl, by simpa using HO.out, ?_⟩
    exact Below.ofGrown (v := .slice (some ⟨w.heap.size, 0, none⟩) 0 0) ((Bel.rfl_ w).al _) (World.ownsRow_made (size := 2) w #[] 0 (Nat.le_refl _) (Nat.zero_le _) rfl) HG.out (Nat.le_refl _) (by simp)

end Go.Proofs.Ytkojeofegoljpaa
