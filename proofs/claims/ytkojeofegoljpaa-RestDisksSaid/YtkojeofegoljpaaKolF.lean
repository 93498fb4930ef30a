/- Columns: some that are not small, looked for. Naturals told as bytes. The document's encoding, and the writer of naturals. What is encoded, in plain words; the document's encoding computes it. The program's encoding computes what is encoded. Each lemma states its own conditions. -/
import Derived.Test.YtkojeofegoljpaaLogF
import Derived.Test.YtkojeofegoljpaaLogH
import Derived.Test.YtkojeofegoljpaaLogG
import Derived.Test.YtkojeofegoljpaaOwn
import Derived.Laws.BytesArg
import Derived.Laws.Concat
import Derived.Deep.RegionHeld3
namespace Go.Proofs.Ytkojeofegoljpaa
open Go.RowKit

theorem notSmallK_any (g : Nat) (hg : g = 58 ∨ g = 64) (e : Ev) (w : World) : Calls Try.prog g #[e.val] w fun r w' => r = .returned (.bool (!evSmall e)) ∧ Bel w w' := by
  have hL := Lib.hid (logSmall_any e)
  unfold Ev.val at hL ⊢
  rcases hg with rfl | rfl
  · go_enter Try.func58, Try.ntmps58
    go_wp2_with (go_at_call 49; refine (hL.out _).mono ?_; rintro e w1 ⟨rfl, hb1⟩; have HB1 := Lib.hid hb1; clear hb1)
    go_ret
    exact ⟨rfl, Bel.tr (by repeat (first | exact Bel.rfl_ _ | apply Bel.al | apply Bel.dr)) HB1.out⟩
  · go_enter Try.func64, Try.ntmps64
    go_wp2_with (go_at_call 49; refine (hL.out _).mono ?_; rintro e w1 ⟨rfl, hb1⟩; have HB1 := Lib.hid hb1; clear hb1)
    go_ret
    exact ⟨rfl, Bel.tr (by repeat (first | exact Bel.rfl_ _ | apply Bel.al | apply Bel.dr)) HB1.out⟩

theorem indexFuncK_any (g : Nat) (hg : g = 58 ∨ g = 64) (v : Value) (l : List Ev) (w : World) (h : Sl evR w v l) (hl : ok64 l.length) :
    Calls Try.prog 70 #[v, .func (.func g) #[] #[]] w fun r w' => ∃ k : Int, r = .returned (.int .i64 k) ∧ decide (k ≥ 0) = !l.all evSmall ∧ Bel w w' := by
  obtain ⟨A, c, rfl, hc, hm, hA⟩ := h
  unfold ok64 at hl
  have HA := Lib.hid hA; clear hA
  have hF := Lib.hid (notSmallK_any g hg)
  unfold Ev.val at hF
  rcases hg with rfl | rfl
  all_goals
    go_enter Try.func70, Try.ntmps70
    go_wp2
    go_loopw [8] (fun i wr => ∃ k : Nat, k ≤ l.length ∧ i = .int .i64 k ∧ Hid ((l.take k).all evSmall = true) ∧ Bel w wr) (fun i _ => l.length - (intOf i).toNat)
    case atStart => exact ⟨0, by omega, rfl, rfl, Bel.rfl_ w⟩
    case round =>
      obtain ⟨k, hk, rfl, ht, hb⟩ := hrel
      by_cases hlt : k < l.length
      · obtain ⟨e, he⟩ : ∃ e, l[k]? = some e := ⟨_, List.getElem?_eq_getElem hlt⟩
        obtain ⟨bb, bo, rfl, hA⟩ := HA.out (by omega)
        obtain ⟨x0, x1, x2, x3, x4, x5⟩ := EvAt.keepB hb (evR.cells hA he)
        have HB := Lib.hid hb; have HE := Lib.hid he; clear hb hA he HA
        cases hs : evSmall e with
        | true =>
          go_wp2_with ((first | go_at_call 58 | go_at_call 64); refine (hF.out _ _).mono ?_; rintro e w1 ⟨rfl, hb1⟩; have HB1 := Lib.hid (HB.out.tr hb1); clear hb1; simp only [hs, Bool.not_true])
          go_roundw
          case rel => exact ⟨k + 1, by omega, by go_num, (by unfold Hid; rw [all_succ HE.out ht.out]; exact hs), HB1.out⟩
          case measure => simp [intOf]; omega
        | false =>
          go_wp2_with ((first | go_at_call 58 | go_at_call 64); refine (hF.out _ _).mono ?_; rintro e w1 ⟨rfl, hb1⟩; have HB1 := Lib.hid (HB.out.tr hb1); clear hb1; simp only [hs, Bool.not_false])
          go_ret
          exact ⟨_, rfl, by rw [all_of_not HE.out hs]; simp, HB1.out⟩
      · go_wp2
        go_ret
        refine ⟨_, rfl, ?_, hb⟩
        have := ht.out
        rw [List.take_of_length_le (by omega)] at this
        rw [this]
        rfl

theorem containsFuncK_any (g : Nat) (hg : g = 58 ∨ g = 64) (v : Value) (l : List Ev) (w : World) (h : Sl evR w v l) (hl : ok64 l.length) :
    Calls Try.prog 47 #[v, .func (.func g) #[] #[]] w fun r w' => r = .returned (.bool (!l.all evSmall)) ∧ Bel w w' := by
  have hC := Lib.hid (indexFuncK_any g hg v l w h hl)
  obtain ⟨A, c, rfl, hc, hm, hA⟩ := h
  clear hA
  go_enter Try.func47, Try.ntmps47
  go_wp2_with fail
  refine hC.out.mono ?_
  rintro e w1 ⟨k, rfl, hd, hb1⟩
  have HD := Lib.hid hd; have HB1 := Lib.hid hb1; clear hd hb1
  go_wp2
  go_ret
  exact ⟨ret_bool HD.out, HB1.out⟩


end Go.Proofs.Ytkojeofegoljpaa

namespace Go.Proofs.Ytkojeofegoljpaa
open Go.RowKit

def natB (n : Nat) : List Int := if n < 128 then [(n : Int)] else ((n % 128 + 128 : Nat) : Int) :: natB (n / 128)
termination_by n
theorem natB_lo {n : Nat} (h : n < 128) : natB n = [(n : Int)] := by rw [natB, if_pos h]
theorem natB_hi {n : Nat} (h : ¬ n < 128) : natB n = ((n % 128 + 128 : Nat) : Int) :: natB (n / 128) := by rw [natB, if_neg h]
theorem natB_len : ∀ (k n : Nat), n < 128 ^ k → 0 < k → (natB n).length ≤ k
  | 0, _, _, h => absurd h (by omega)
  | k + 1, n, h, _ => by
    rw [natB]
    split
    · simp
    · rename_i h1
      have h2 : n / 128 < 128 ^ k := by rw [Nat.div_lt_iff_lt_mul (by omega)]; rw [Nat.pow_succ] at h; exact h
      have hk : 0 < k := by
        rcases Nat.eq_zero_or_pos k with rfl | hk
        · simp at h; omega
        · exact hk
      have := natB_len k (n / 128) h2 hk
      simp only [List.length_cons]; omega

theorem str_appK (xs ys : List Int) : strOfNums xs ++ strOfNums ys = strOfNums (xs ++ ys) := by
  unfold strOfNums
  rw [ByteArray.mk_append_mk, List.map_append]
theorem str_nilK : (⟨#[]⟩ : ByteArray) = strOfNums [] := rfl

theorem conv1K (w : World) (x : Int) : (convert 74 9 (.slice (some ⟨w.heap.size, 0, none⟩) 1 1)).run Try.prog (w.alloc (.cells #[.int .u8 x] 5)) = .ok (.string (strOfNums [x])) (w.alloc (.cells #[.int .u8 x] 5)) := by
  refine run_convert_bytes_arg (P := Try.prog) _ 74 5 Try.underlying74 Try.underlying5 _ 0 1 1 [x] rfl ?_ _ Try.underlying9
  intro i hi
  obtain rfl : i = 0 := by omega
  rw [cell_of_row _ w.heap.size 0 #[.int .u8 x] 5 (0, 0) (heap_alloc_new w _)]
  rfl

end Go.Proofs.Ytkojeofegoljpaa

namespace Go.Proofs.Ytkojeofegoljpaa
open Go.RowKit

def colv (e : Ev) (c : Nat) : Int := [e.kind, e.frame, e.at_, e.var, e.index, e.value].getD c 0
def zig (n : Int) : Nat := if n < 0 then (-2 * n - 1).toNat else (2 * n).toNat

/-- a writer that lies at a block of the call's own -/
def WrK (w : World) (g : Nat) (xs : List Int) : Prop := ∃ v, Blk w g 97 #[v] ∧ w.ownsRow (g + 1) 5 1 v xs.length (xs.map (Value.int .u8))
theorem elU8K : Elem Try.prog 74 5 1 1 := Elem.mk_ (z := .int .u8 0) Try.underlying74 (by kernel_rfl) rfl (by omega)
theorem u63 : Try.prog.underlying 74 = some (.slice 5) := Try.underlying74

theorem grown_set (w : World) (b i : Nat) (u : Value) : w.grownBy (w.setCell ⟨b, i, none⟩ u) (some b) :=
  ⟨rfl, rfl, rfl, by simp, fun k _ hk => heap_setCell_other w _ k u (fun e => hk (by rw [e]))⟩
theorem WrK.put {w : World} {g : Nat} {v v' : Value} {xs : List Int} (hB : Blk w g 97 #[v]) (hO : w.ownsRow (g + 1) 5 1 v' xs.length (xs.map (Value.int .u8))) : WrK (w.setCell ⟨g, 0, none⟩ v') g xs := by
  refine ⟨v', hB.set_ 0 v', hO.kept (grown_set w g 0 v') ?_⟩
  cases h : v'.ownBlock with
  | none => exact .inl rfl
  | some k =>
    have := (hO.lt k h).1
    exact .inr (fun e => by have : k = g := by simpa using e
                            omega)

set_option maxRecDepth 20000 in
theorem wnat_any (g : Nat) (xs : List Int) (n : Nat) (hn : n < 4611686018427387904) (hx : xs.length ≤ 1000000000) (w : World) (h : WrK w g xs) :
    Calls Try.prog 59 #[.pointer (some ⟨g, 0, none⟩), .int .i64 n] w fun r w' => (∃ v, r = .returned v) ∧ WrK w' g (xs ++ natB n) ∧ Below g w w' := by
  have HN := Lib.hid (natB_len 9 n (by omega) (by omega))
  go_enter Try.func59, Try.ntmps59
  go_wp2
  go_loopw [1] (fun v wr => ∃ (m : Nat) (pre : List Int), v = .int .i64 m ∧ Hid (xs ++ natB n = pre ++ natB m) ∧ m ≤ n ∧ WrK wr g pre ∧ Below g w wr) (fun v _ => (intOf v).toNat)
  case atStart => exact ⟨n, xs, rfl, rfl, by omega, h, Below.refl _ _⟩
  case round =>
    obtain ⟨m, pre, rfl, hp, hm, ⟨u, hB, hO⟩, hb⟩ := hrel
    have hpl : pre.length ≤ 1000000009 := by
      have h1 := congrArg List.length hp.out
      rw [List.length_append, List.length_append] at h1
      have := HN.out
      omega
    have x0 : wr.cell? ⟨g, 0, none⟩ = some u := hB.cell rfl
    have y0 := hB.frozen 0
    have z0 := hB.lt
    have HB := Lib.hid hb; have HBk := Lib.hid hB; have HO := Lib.hid hO; clear hb hB hO h
    have hne := Lib.hid (HBk.out.ne_own HO.out (by decide))
    by_cases hlt : m < 128
    · go_wp2_with (at_builtin; refine wpl_app wr rfl (.tmp 25) (.tmp 28) 74 rfl (g + 1) elU8K u pre.length _ rfl HO.out [.int .u8 m] rfl rfl (by simp [Value.oneCell']) (by simp only [maxLen]; omega) (by omega) (by omega) ?_; intro g2 cap w2 hown2 hg2 _; have hB2 := HBk.out.grown hg2 hne.out; have x2 : w2.cell? ⟨g, 0, none⟩ = some u := hB2.cell rfl; have y2 := hB2.frozen 0; have HB2 := Lib.hid hB2; have HO2 := Lib.hid hown2; have HG2 := Lib.hid hg2; clear hB2 hown2 hg2)
      have hb2 := Below.grown HB.out HG2.out (by omega) (fun k hk => by have := (HO.out.lt k hk).1; omega)
      refine bodyPost_end (v := .tuple #[]) (results_none rfl _ _ _) rfl ⟨⟨_, rfl⟩, ?_, hb2.setCell (Nat.le_refl _) _⟩
      rw [hp.out, natB_lo hlt]
      refine WrK.put HB2.out ?_
      have := HO2.out
      simpa using this
    · go_wp2_with (at_builtin; refine wpl_app wr rfl (.tmp 10) (.tmp 15) 74 rfl (g + 1) elU8K u pre.length _ rfl HO.out [.int .u8 (m % 128 + 128)] rfl rfl (by simp [Value.oneCell']) (by simp only [maxLen]; omega) (by omega) (by omega) ?_; intro g2 cap w2 hown2 hg2 _; have hB2 := HBk.out.grown hg2 hne.out; have x2 : w2.cell? ⟨g, 0, none⟩ = some u := hB2.cell rfl; have y2 := hB2.frozen 0; have HB2 := Lib.hid hB2; have HO2 := Lib.hid hown2; have HG2 := Lib.hid hg2; clear hB2 hown2 hg2)
      have hb2 := Below.grown HB.out HG2.out (by omega) (fun k hk => by have := (HO.out.lt k hk).1; omega)
      go_roundw
      case rel =>
        refine ⟨m / 128, pre ++ [((m % 128 + 128 : Nat) : Int)], by go_num, (by unfold Hid; rw [hp.out, natB_hi hlt, List.append_assoc]; rfl), by omega, WrK.put HB2.out ?_, hb2.setCell (Nat.le_refl _) _⟩
        have := HO2.out
        simpa using this
      case measure => simp [intOf]; omega

theorem zig_lt {n : Int} (h : -2305843009213693952 < n ∧ n < 2305843009213693952) : zig n < 4611686018427387904 := by unfold zig; split <;> omega
theorem wnum_any (g : Nat) (xs : List Int) (n : Int) (hn : -2305843009213693952 < n ∧ n < 2305843009213693952) (hx : xs.length ≤ 1000000000) (w : World) (h : WrK w g xs) :
    Calls Try.prog 61 #[.pointer (some ⟨g, 0, none⟩), .int .i64 n] w fun r w' => (∃ v, r = .returned v) ∧ WrK w' g (xs ++ natB (zig n)) ∧ Below g w w' := by
  have hz := zig_lt hn
  by_cases h0 : n < 0
  · have hc := Lib.hid (wnat_any g xs (zig n) hz hx w h)
    have hq : zig n = (-2 * n - 1).toNat := by unfold zig; rw [if_pos h0]
    have he : ((zig n : Nat) : Int) = -2 * n - 1 := by rw [hq]; omega
    have HC : Hid (Calls Try.prog 59 #[.pointer (some ⟨g, 0, none⟩), .int .i64 (-2 * n - 1)] w fun r w' => (∃ v, r = .returned v) ∧ WrK w' g (xs ++ natB (zig n)) ∧ Below g w w') := by
      rw [← he]; exact hc
    clear hc hq he hz h
    go_enter Try.func61, Try.ntmps61
    go_wp2_with fail
    refine HC.out.mono ?_
    rintro e w1 ⟨⟨v, rfl⟩, hw, hb⟩
    have HW := Lib.hid hw; have HB := Lib.hid hb; clear hw hb
    go_wp2
    exact bodyPost_end (v := .tuple #[]) (results_none rfl _ _ _) rfl ⟨⟨_, rfl⟩, HW.out, HB.out⟩
  · have hc := Lib.hid (wnat_any g xs (zig n) hz hx w h)
    have hq : zig n = (2 * n).toNat := by unfold zig; rw [if_neg h0]
    have he : ((zig n : Nat) : Int) = 2 * n := by rw [hq]; omega
    have HC : Hid (Calls Try.prog 59 #[.pointer (some ⟨g, 0, none⟩), .int .i64 (2 * n)] w fun r w' => (∃ v, r = .returned v) ∧ WrK w' g (xs ++ natB (zig n)) ∧ Below g w w') := by
      rw [← he]; exact hc
    clear hc hq he hz h
    go_enter Try.func61, Try.ntmps61
    go_wp2_with fail
    refine HC.out.mono ?_
    rintro e w1 ⟨⟨v, rfl⟩, hw, hb⟩
    have HW := Lib.hid hw; have HB := Lib.hid hb; clear hw hb
    go_wp2
    exact bodyPost_end (v := .tuple #[]) (results_none rfl _ _ _) rfl ⟨⟨_, rfl⟩, HW.out, HB.out⟩

/-- the addresses of an event's numbers -/
theorem columns_any (b o : Nat) (w : World) :
    Calls Try.prog 60 #[.pointer (some ⟨b, o, none⟩)] w fun r w' => r = .returned (.slice (some ⟨w.heap.size, 0, none⟩) 6 6) ∧ Bel w w' ∧
      Blk w' w.heap.size 99 #[.pointer (some ⟨b, o, none⟩), .pointer (some ⟨b, o + 1, none⟩), .pointer (some ⟨b, o + 2, none⟩), .pointer (some ⟨b, o + 3, none⟩), .pointer (some ⟨b, o + 4, none⟩), .pointer (some ⟨b, o + 5, none⟩)] := by
  go_enter Try.func60, Try.ntmps60
  go_wp2
  go_region
  go_wp2
  go_ret
  exact ⟨rfl, ((Bel.rfl_ w).al _).dr, Blk.new w _ _⟩

end Go.Proofs.Ytkojeofegoljpaa

namespace Go.Proofs.Ytkojeofegoljpaa
open Go.RowKit

def encFrom (was : Int) : List Int → List Int
  | [] => []
  | x :: xs => natB (zig (x - was)) ++ encFrom x xs
def wasAt (xs : List Int) (k : Nat) : Int := ((xs.take k).getLast?).getD 0
def col (l : List Ev) (c : Nat) : List Int := l.map fun e => colv e c
def encCols (l : List Ev) : Nat → List Int
  | 0 => natB l.length
  | c + 1 => encCols l c ++ encFrom 0 (col l c)

theorem encFrom_snoc (x : Int) : ∀ (was : Int) (ys : List Int), encFrom was (ys ++ [x]) = encFrom was ys ++ natB (zig (x - ys.getLast?.getD was))
  | was, [] => by simp [encFrom]
  | was, y :: ys => by
    rw [List.cons_append, encFrom, encFrom, encFrom_snoc x y ys, List.append_assoc]
    cases ys with
    | nil => rfl
    | cons z zs => rw [List.getLast?_cons_cons]; simp [List.getLast?_cons]
theorem encFrom_succ {xs : List Int} {k : Nat} {x : Int} (h : xs[k]? = some x) : encFrom 0 (xs.take (k + 1)) = encFrom 0 (xs.take k) ++ natB (zig (x - wasAt xs k)) := by
  obtain ⟨hk, rfl⟩ := List.getElem?_eq_some_iff.1 h
  rw [List.take_succ_eq_append_getElem hk, encFrom_snoc]
  rfl
theorem wasAt_succ {xs : List Int} {k : Nat} {x : Int} (h : xs[k]? = some x) : wasAt xs (k + 1) = x := by
  obtain ⟨hk, rfl⟩ := List.getElem?_eq_some_iff.1 h
  unfold wasAt
  rw [List.take_succ_eq_append_getElem hk, List.getLast?_append]
  rfl
theorem wasAt_zero (xs : List Int) : wasAt xs 0 = 0 := rfl
theorem evSmall_colv {e : Ev} (h : evSmall e = true) {c : Nat} (hc : c < 6) : isN (colv e c) = true := by
  simp only [evSmall, Bool.and_eq_true] at h
  obtain ⟨⟨⟨⟨⟨h0, h1⟩, h2⟩, h3⟩, h4⟩, h5⟩ := h
  match c, hc with
  | 0, _ => exact h0
  | 1, _ => exact h1
  | 2, _ => exact h2
  | 3, _ => exact h3
  | 4, _ => exact h4
  | 5, _ => exact h5
theorem col_small {l : List Ev} (h : l.all evSmall = true) {c : Nat} (hc : c < 6) : ∀ x ∈ col l c, isN x = true := by
  intro x hx
  obtain ⟨e, he, rfl⟩ := List.mem_map.1 hx
  exact evSmall_colv (List.all_eq_true.1 h e he) hc
theorem wasAt_small {xs : List Int} (h : ∀ x ∈ xs, isN x = true) (k : Nat) : isN (wasAt xs k) = true := by
  unfold wasAt
  cases hl : (xs.take k).getLast? with
  | none => rfl
  | some x => exact h x (List.mem_of_mem_take (List.mem_of_getLast? hl))
theorem diff_ok {x y : Int} (hx : isN x = true) (hy : isN y = true) : -2305843009213693952 < x - y ∧ x - y < 2305843009213693952 := by
  rw [isN_iff] at hx hy
  omega
theorem encFrom_len : ∀ (was : Int) (xs : List Int), isN was = true → (∀ x ∈ xs, isN x = true) → (encFrom was xs).length ≤ 9 * xs.length
  | _, [], _, _ => by simp [encFrom]
  | was, x :: xs, hw, h => by
    have hx := h x (by simp)
    have h1 := encFrom_len x xs hx (fun y hy => h y (by simp [hy]))
    have h2 := natB_len 9 (zig (x - was)) (by have := zig_lt (diff_ok hx hw); omega) (by omega)
    rw [encFrom, List.length_append, List.length_cons]
    omega
theorem encCols_len {l : List Ev} (hl : l.length ≤ 4000) (h : l.all evSmall = true) : ∀ c, c ≤ 6 → (encCols l c).length ≤ 9 + 36000 * c
  | 0, _ => natB_len 9 _ (by omega) (by omega)
  | c + 1, hc => by
    have h1 := encCols_len hl h c (by omega)
    have h2 := encFrom_len 0 (col l c) rfl (col_small h (by omega))
    have h3 : (col l c).length = l.length := by simp [col]
    rw [encCols, List.length_append]
    omega
theorem part_len {l : List Ev} (hl : l.length ≤ 4000) (h : l.all evSmall = true) {c : Nat} (hc : c < 6) (j : Nat) : (encCols l c ++ encFrom 0 ((col l c).take j)).length ≤ 300000 := by
  have h1 := encCols_len hl h c (by omega)
  have h2 := encFrom_len 0 ((col l c).take j) rfl (fun x hx => col_small h hc x (List.mem_of_mem_take hx))
  have h3 : (col l c).length = l.length := by simp [col]
  have h4 := List.length_take_le j (col l c)
  have h5 : ((col l c).take j).length ≤ (col l c).length := by simp; omega
  rw [List.length_append]
  omega

end Go.Proofs.Ytkojeofegoljpaa

namespace Go.Proofs.Ytkojeofegoljpaa
open Go.RowKit

def encErr (l : List Ev) : Int := if 4000 < l.length then 2 else if l.all evSmall = true then 0 else 3

theorem encode_many (v : Value) (l : List Ev) (w : World) (h : Sl evR w v l) (hok : ok64 l.length) (hl : 4000 < l.length) :
    Calls Try.prog 31 #[v] w fun r w' => r = .returned (.tuple #[.string (strOfNums []), .int .i64 2]) ∧ Bel w w' := by
  obtain ⟨A, c, rfl, hc, hm, hA⟩ := h
  unfold ok64 at hok
  clear hA
  go_enter Try.func31, Try.ntmps31
  go_wp2
  go_ret2
  exact ⟨rfl, Bel.rfl_ w⟩

theorem encode_range (v : Value) (l : List Ev) (w : World) (h : Sl evR w v l) (hl : l.length ≤ 4000) (hsm : l.all evSmall = false) :
    Calls Try.prog 31 #[v] w fun r w' => r = .returned (.tuple #[.string (strOfNums []), .int .i64 3]) ∧ Bel w w' := by
  have H := Lib.hid h
  obtain ⟨A, c, rfl, hc, hm, hA⟩ := h
  clear hA
  go_enter Try.func31, Try.ntmps31
  go_wp2_with (go_at_call 47; refine (containsFuncK_any _ (.inl rfl) _ l _ H.out (by unfold ok64; omega)).mono ?_; rintro e w1 ⟨rfl, hb1⟩; have HB1 := Lib.hid hb1; clear hb1; rw [hsm])
  go_ret2
  exact ⟨rfl, HB1.out⟩

theorem WrK.keep {w w' : World} {g : Nat} {xs : List Int} (hb : Bel w w') : WrK w g xs → WrK w' g xs := fun ⟨v, h1, h2⟩ => ⟨v, h1.keep hb, hb.own h2⟩
theorem ptr_cell {w : World} {g b : Nat} (h : Blk w g 99 #[.pointer (some ⟨b, 0, none⟩), .pointer (some ⟨b, 0 + 1, none⟩), .pointer (some ⟨b, 0 + 2, none⟩), .pointer (some ⟨b, 0 + 3, none⟩), .pointer (some ⟨b, 0 + 4, none⟩), .pointer (some ⟨b, 0 + 5, none⟩)])
    {k : Nat} (hk : k < 6) : w.cell? ⟨g, k, none⟩ = some (.pointer (some ⟨b, k, none⟩)) := by
  match k, hk with
  | 0, _ | 1, _ | 2, _ | 3, _ | 4, _ | 5, _ => exact h.cell rfl
theorem col_cell {w : World} {b : Nat} {t : TypeId} {e : Ev} (h : Blk w b t #[.int .i64 e.kind, .int .i64 e.frame, .int .i64 e.at_, .int .i64 e.var, .int .i64 e.index, .int .i64 e.value])
    {k : Nat} (hk : k < 6) : w.cell? ⟨b, k, none⟩ = some (.int .i64 (colv e k)) := by
  match k, hk with
  | 0, _ | 1, _ | 2, _ | 3, _ | 4, _ | 5, _ => exact h.cell rfl
theorem conv_ownK {w : World} {base : Nat} {v : Value} {xs : List Int} (h : w.ownsRow base 5 1 v xs.length (xs.map (Value.int .u8))) :
    (convert 74 9 v).run Try.prog w = .ok (.string (strOfNums xs)) w := by
  rcases h.2 with ⟨rfl, h0⟩ | ⟨g, cap, cur, rfl, _, hg, hnc, hcm, hcs, ht⟩
  · obtain rfl : xs = [] := List.eq_nil_of_length_eq_zero h0
    exact run_convert_bytes_nil (P := Try.prog) w 74 5 Try.underlying74 Try.underlying5 0 0 _ Try.underlying9
  · refine run_convert_bytes_arg (P := Try.prog) w 74 5 Try.underlying74 Try.underlying5 g 0 _ cap xs rfl ?_ _ Try.underlying9
    intro i hi
    rw [cell_of_row w g _ cur 5 (0, 0) hg, Nat.zero_add]
    have h1 : (cur.toList.take (xs.length * 1))[i]? = (xs.map (Value.int .u8))[i]? := by rw [ht]
    rw [List.getElem?_take, if_pos (by omega), List.getElem?_map, List.getElem?_eq_getElem hi, Array.getElem?_toList] at h1
    rw [h1, List.getD_eq_getElem?_getD, List.getElem?_eq_getElem hi]
    rfl

set_option maxRecDepth 20000 in
set_option maxHeartbeats 1000000 in
theorem encode_ok (v : Value) (l : List Ev) (w : World) (h : Sl evR w v l) (hl : l.length ≤ 4000) (hsm : l.all evSmall = true) :
    Calls Try.prog 31 #[v] w fun r w' => r = .returned (.tuple #[.string (strOfNums (encCols l 6)), .int .i64 0]) ∧ Bel w w' := by
  have H := Lib.hid h
  obtain ⟨A, c, rfl, hc, hm, hA⟩ := h
  have HA := Lib.hid hA; clear hA
  have HSM := Lib.hid hsm
  go_enter Try.func31, Try.ntmps31
  go_wp2_with fail
  refine (containsFuncK_any _ (.inl rfl) _ l _ H.out (by unfold ok64; omega)).mono ?_
  rintro e w1 ⟨rfl, hb1⟩
  have HB1 := Lib.hid hb1; clear hb1
  rw [hsm]
  clear hsm H
  have HW0 : Hid (WrK (w1.alloc (.cells #[.slice none 0 0] 97)) w1.heap.size []) := Lib.hid ⟨_, Blk.new _ _ _, World.ownsRow_nil _ _ _ _⟩
  go_wp2_with fail
  refine (wnat_any w1.heap.size [] l.length (by omega) (by simp) _ HW0.out).mono ?_
  rintro e w2 ⟨⟨v2, rfl⟩, hw2, hb2⟩
  have HB2 : Hid (Bel w w2) := Lib.hid (Below.trans (HB1.out.al _) (Below.mono hb2 HB1.out.size))
  have HG : Hid (w.heap.size ≤ w1.heap.size) := Lib.hid HB1.out.size
  have HW2 : Hid (WrK w2 w1.heap.size (encCols l 0)) := Lib.hid hw2
  generalize w1.heap.size = g at HG HW2 ⊢
  clear hw2 hb2 HW0 HB1
  go_wp2_with fail
  go_loopw [23] (fun i wr => ∃ k : Nat, k ≤ 6 ∧ i = .int .i64 k ∧ Hid (WrK wr g (encCols l k)) ∧ Bel w wr) (fun i _ => 6 - (intOf i).toNat)
  case atStart => exact ⟨0, by omega, rfl, HW2, HB2.out⟩
  case round =>
    obtain ⟨k, hk, rfl, hw, hb⟩ := hrel
    have HB := Lib.hid hb; clear hb HB2 HW2
    by_cases hk6 : k < 6
    · have hdk : decide ((k : Int) < 6) = true := decide_eq_true (by omega)
      have HCS := Lib.hid (col_small HSM.out hk6)
      have HPL := Lib.hid (fun j => part_len hl HSM.out hk6 j)
      go_wp2
      go_loopw [6, 28] (fun v i wr => ∃ j : Nat, j ≤ l.length ∧ i = .int .i64 j ∧ v = .int .i64 (wasAt (col l k) j) ∧ Hid (WrK wr g (encCols l k ++ encFrom 0 ((col l k).take j))) ∧ Bel w wr) (fun _ i _ => l.length - (intOf i).toNat)
      case atStart => exact ⟨0, by omega, rfl, rfl, (by simpa [encFrom] using hw), HB.out⟩
      case round =>
        obtain ⟨j, hj, rfl, rfl, hw, hb⟩ := hrel
        by_cases hlt : j < l.length
        · obtain ⟨e, he⟩ : ∃ e, l[j]? = some e := ⟨_, List.getElem?_eq_getElem hlt⟩
          obtain ⟨bb, bo, rfl, hA⟩ := HA.out (by omega)
          obtain ⟨x0, x1, x2, x3, x4, x5⟩ := EvAt.keepB hb (evR.cells hA he)
          have hce : (col l k)[j]? = some (colv e k) := by simp [col, he]
          have HE := Lib.hid (encFrom_succ hce)
          have HWA := Lib.hid (wasAt_succ hce)
          have HD := Lib.hid (diff_ok (HCS.out _ (List.mem_of_getElem? hce)) (wasAt_small HCS.out j))
          have HBB := Lib.hid hb; clear hb hA he HA hce
          have hd1 := HD.out.1
          have hd2 := HD.out.2
          go_wp2_with fail
          refine (columns_any wr.heap.size 0 _).mono ?_
          rintro e' w3 ⟨rfl, hb3, hblk⟩
          have hs : (wr.alloc (.cells #[.int .i64 e.kind, .int .i64 e.frame, .int .i64 e.at_, .int .i64 e.var, .int .i64 e.index, .int .i64 e.value] 81)).heap.size = wr.heap.size + 1 := by simp
          rw [hs] at hblk ⊢
          have y0 := ptr_cell hblk hk6
          have z0 := col_cell ((Blk.new wr 81 #[.int .i64 e.kind, .int .i64 e.frame, .int .i64 e.at_, .int .i64 e.var, .int .i64 e.index, .int .i64 e.value]).keep hb3) hk6
          have hb3' : Bel wr w3 := ((Bel.rfl_ wr).al _).tr hb3
          have HW3 := Lib.hid (WrK.keep hb3' hw.out)
          have HBB := Lib.hid (HBB.out.tr hb3')
          clear hs hblk hb3 hb3' hw
          go_wp2_with fail
          refine (wnum_any g _ (colv e k - wasAt (col l k) j) HD.out (by have := HPL.out j; omega) _ HW3.out).mono ?_
          rintro e' w4 ⟨⟨v4, rfl⟩, hw4, hb4⟩
          have HW4 := Lib.hid hw4
          have HB4 : Hid (Bel w w4) := Lib.hid (Below.trans HBB.out (Below.mono hb4 HG.out))
          clear hw4 hb4 HW3 y0 z0
          go_wp2
          go_roundw
          case rel => exact ⟨j + 1, by omega, by go_num, by rw [HWA.out], (by unfold Hid; rw [HE.out, ← List.append_assoc]; exact HW4.out), HB4.out⟩
          case measure => simp [intOf]; omega
        · have hjl : (col l k).length ≤ j := by simp [col]; omega
          go_wp2
          go_roundw
          case rel => exact ⟨k + 1, by omega, by go_num, (by rw [List.take_of_length_le hjl] at hw; exact hw), hb⟩
          case measure => simp [intOf]; omega
    · obtain rfl : k = 6 := by omega
      obtain ⟨u, hB, hO⟩ := hw
      have x0 : wr.cell? ⟨g, 0, none⟩ = some u := hB.cell rfl
      have hcv := conv_ownK hO
      clear hB hO
      go_wp2
      go_ret2
      exact ⟨rfl, HB.out⟩

def encStr (l : List Ev) : ByteArray := if encErr l = 0 then strOfNums (encCols l 6) else strOfNums []
theorem encode_any (v : Value) (l : List Ev) (w : World) (h : Sl evR w v l) (hok : ok64 l.length) :
    Calls Try.prog 31 #[v] w fun r w' => r = .returned (.tuple #[.string (encStr l), .int .i64 (encErr l)]) ∧ Bel w w' := by
  by_cases hl : 4000 < l.length
  · have he : encErr l = 2 := by unfold encErr; rw [if_pos hl]
    unfold encStr
    rw [he]
    exact encode_many v l w h hok hl
  · cases hsm : l.all evSmall with
    | true =>
      have he : encErr l = 0 := by unfold encErr; rw [if_neg hl, if_pos hsm]
      unfold encStr
      rw [he]
      exact encode_ok v l w h (by omega) hsm
    | false =>
      have he : encErr l = 3 := by unfold encErr; rw [if_neg hl, if_neg (by simp [hsm])]
      unfold encStr
      rw [he]
      exact encode_range v l w h (by omega) hsm

end Go.Proofs.Ytkojeofegoljpaa
