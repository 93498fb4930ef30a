/- Queries as trees: what a query reads as, how many parts it has, what is wrong with it. How many parts a query has: both counts walked. What is wrong with a query: both checks walked. Each lemma states its own conditions. -/
import Derived.Test.YtegknpffiaeohaaDoorAbout
import Derived.Test.YtegknpffiaeohaaDoorOwn
namespace Go.Proofs.YtegknpffiaeohaaDoor
open Go.RowKit

inductive Ask where
  | mk (kind n : Int) (args : List Ask)
def Ask.kind : Ask → Int | .mk k _ _ => k
def Ask.n : Ask → Int | .mk _ n _ => n
def Ask.args : Ask → List Ask | .mk _ _ a => a

theorem Ask.ind {p : Ask → Prop} (h : ∀ k n args, (∀ x ∈ args, p x) → p (.mk k n args)) : ∀ q, p q
  | .mk k n args => h k n args fun x _hx => Ask.ind h x
  termination_by q => SizeOf.sizeOf q
  decreasing_by
    have := List.sizeOf_lt_of_mem _hx
    simp only [Ask.mk.sizeOf_spec]
    omega

/-- three cells read as a query -/
inductive AskR (w : World) : Ask → List Value → Prop
  | nil (k n : Int) (A : Option Addr) (c : Nat) (hc : c ≤ maxLen) (hA : A = none → c = 0) : AskR w (.mk k n []) [.int .i64 k, .int .i64 n, .slice A 0 c]
  | row (k n : Int) (args : List Ask) (b o c : Nat) (f : Nat → List Value) (hp : 0 < args.length) (hl : args.length ≤ c) (hc : c ≤ maxLen)
      (hf : ∀ i x, args[i]? = some x → AskR w x (f i)) (hcs : ∀ i x, args[i]? = some x → CellsAt w b (o + i * 3) (f i)) :
      AskR w (.mk k n args) [.int .i64 k, .int .i64 n, .slice (some ⟨b, o, none⟩) args.length c]

theorem AskR.keep {w w' : World} (hb : Bel w w') {q : Ask} {cs : List Value} (h : AskR w q cs) : AskR w' q cs := by
  induction h with
  | nil k n A c hc hA => exact .nil k n A c hc hA
  | row k n args b o c f hp hl hc hf hcs ih => exact .row k n args b o c f hp hl hc ih fun i x hx => (hcs i x hx).keep hb
def askR : Rep Ask where
  size := 3
  R w cs q := AskR w q cs
  len h := by cases h <;> rfl
  keep hb h := h.keep hb
theorem AskR.opened {w : World} {k n : Int} {args : List Ask} {cs : List Value} (h : AskR w (.mk k n args) cs) : ∃ v, cs = [.int .i64 k, .int .i64 n, v] ∧ Sl askR w v args := by
  cases h with
  | nil _ _ A c hc hA => exact ⟨_, rfl, Sl.nil askR w c A hc hA⟩
  | row _ _ _ b o c f hp hl hc hf hcs => exact ⟨_, rfl, _, _, rfl, hl, ⟨hc, fun h => by cases h⟩, fun _ => ⟨b, o, rfl, fun i x hx => ⟨f i, hf i x hx, hcs i x hx⟩⟩⟩
theorem AskR.shut {w : World} {k n : Int} {args : List Ask} {v : Value} (h : Sl askR w v args) : AskR w (.mk k n args) [.int .i64 k, .int .i64 n, v] := by
  obtain ⟨A, c, rfl, hl, hm, hA⟩ := h
  rcases Nat.eq_zero_or_pos args.length with h0 | h0
  · obtain rfl := List.eq_nil_of_length_eq_zero h0
    exact .nil k n A c hm.1 hm.2
  · obtain ⟨b, o, rfl, hc⟩ := hA h0
    have hx : ∀ i, ∃ cs, ∀ x, args[i]? = some x → AskR w x cs ∧ CellsAt w b (o + i * 3) cs := fun i => by
      cases hx : args[i]? with
      | none => exact ⟨[], fun _ h => by cases h⟩
      | some x =>
        obtain ⟨cs, h1, h2⟩ := hc i x hx
        exact ⟨cs, fun y hy => by obtain rfl := Option.some.inj hy; exact ⟨h1, h2⟩⟩
    exact .row k n args b o c (fun i => Classical.choose (hx i)) h0 hl hm.1 (fun i x hi => (Classical.choose_spec (hx i) x hi).1) (fun i x hi => (Classical.choose_spec (hx i) x hi).2)

/-- a query as an argument -/
def AskV (w : World) (q : Ask) (val : Value) : Prop := ∃ v, val = .agg #[.int .i64 q.kind, .int .i64 q.n, v] ∧ Sl askR w v q.args
theorem AskV.keep {w w' : World} (hb : Bel w w') {q : Ask} {val : Value} (h : AskV w q val) : AskV w' q val := by
  obtain ⟨v, h1, h2⟩ := h
  exact ⟨v, h1, h2.keep hb⟩
/-- an element of a query's Args -/
theorem askR.cells {w : World} {b o : Nat} {xs : List Ask} (h : ∀ k x, xs[k]? = some x → askR.At w b (o + k * askR.size) x) {k : Nat} {x : Ask} (hk : xs[k]? = some x) :
    ∃ A m c, Sl askR w (.slice A m c) x.args ∧ w.cell? ⟨b, o + k * 3, none⟩ = some (.int .i64 x.kind) ∧ w.cell? ⟨b, o + k * 3 + 1, none⟩ = some (.int .i64 x.n) ∧ w.cell? ⟨b, o + k * 3 + 2, none⟩ = some (.slice A m c) := by
  obtain ⟨cs, hc, hcs⟩ := h k x hk
  obtain ⟨k', n', args⟩ := x
  obtain ⟨v, rfl, hs⟩ := AskR.opened hc
  have hs' := hs
  obtain ⟨A, c, rfl, _⟩ := hs
  exact ⟨A, _, c, hs', hcs 0 _ rfl, hcs 1 _ rfl, hcs 2 _ rfl⟩

mutual
/-- how many parts; more than m is enough -/
def Ask.size : Ask → Int → Int
  | .mk _ _ args, m => sizeL args 1 m
def sizeL : List Ask → Int → Int → Int
  | [], a, _ => a
  | x :: xs, a, m => if m < a then a else sizeL xs (a + x.size (m - a)) m
end
theorem sizeL_le {xs : List Ask} (h : ∀ x ∈ xs, ∀ m, 0 ≤ m → 1 ≤ x.size m ∧ x.size m ≤ m + 1) : ∀ a m, 1 ≤ a → a ≤ m + 1 → 1 ≤ sizeL xs a m ∧ sizeL xs a m ≤ m + 1 := by
  induction xs with
  | nil => intro a m h1 h2; rw [sizeL]; exact ⟨h1, h2⟩
  | cons x xs ih =>
    intro a m h1 h2
    rw [sizeL]
    split
    · exact ⟨h1, h2⟩
    · obtain ⟨h3, h4⟩ := h x (by simp) (m - a) (by omega)
      exact ih (fun y hy => h y (by simp [hy])) _ _ (by omega) (by omega)
theorem Ask.size_le : ∀ q : Ask, ∀ m, 0 ≤ m → 1 ≤ q.size m ∧ q.size m ≤ m + 1 :=
  Ask.ind fun k n args ih m hm => by rw [Ask.size]; exact sizeL_le ih 1 m (by omega) (by omega)
theorem sizeL_drop {args : List Ask} {k : Nat} {x : Ask} (hx : args[k]? = some x) (a m : Int) : sizeL (args.drop k) a m = if m < a then a else sizeL (args.drop (k + 1)) (a + x.size (m - a)) m := by
  obtain ⟨hl, rfl⟩ := List.getElem?_eq_some_iff.1 hx
  rw [List.drop_eq_getElem_cons hl, sizeL]
theorem sizeL_end {args : List Ask} {k : Nat} (h : args.length ≤ k) (a m : Int) : sizeL (args.drop k) a m = a := by
  rw [List.drop_eq_nil_of_le h, sizeL]

/-- how many Args a kind of queries has -/
def arity (k : Int) : Int := if k ≤ 6 then 0 else if k = 8 ∨ k = 9 ∨ k = 13 then 2 else 1
def leastN (k : Int) : Int := if k = 1 ∨ k = 2 ∨ k = 3 then -1 else if k = 5 ∨ k = 6 then -9999999 else 0
def mostN (k : Int) : Int := if k = 1 ∨ k = 2 ∨ k = 3 then 9999999 else if k = 5 ∨ k = 6 then 9999999 else if k = 14 then 4000 else 0
mutual
/-- what is wrong with a query that is not too great -/
def Ask.chk : Ask → Int
  | .mk k n args => if 1 ≤ k ∧ k ≤ 14 then if (args.length : Int) = arity k then if leastN k ≤ n ∧ n ≤ mostN k then chkL args else 3 else 1 else 7
def chkL : List Ask → Int
  | [] => 0
  | x :: xs => if x.chk = 0 then chkL xs else x.chk
end
theorem chkL_drop {args : List Ask} {k : Nat} {x : Ask} (hx : args[k]? = some x) : chkL (args.drop k) = if x.chk = 0 then chkL (args.drop (k + 1)) else x.chk := by
  obtain ⟨hl, rfl⟩ := List.getElem?_eq_some_iff.1 hx
  rw [List.drop_eq_getElem_cons hl, chkL]
theorem chkL_end {args : List Ask} {k : Nat} (h : args.length ≤ k) : chkL (args.drop k) = 0 := by
  rw [List.drop_eq_nil_of_le h, chkL]
theorem chkL_zero {args : List Ask} (h : chkL args = 0) : ∀ x ∈ args, x.chk = 0 := by
  induction args with
  | nil => simp
  | cons y ys ih =>
    rw [chkL] at h
    split at h
    · rename_i h0
      intro x hx
      rcases List.mem_cons.1 hx with rfl | hx
      · exact h0
      · exact ih h x hx
    · exact absurd h ‹_›
theorem Ask.chk_zero {k n : Int} {args : List Ask} (h : (Ask.mk k n args).chk = 0) : (1 ≤ k ∧ k ≤ 14) ∧ (args.length : Int) = arity k ∧ (leastN k ≤ n ∧ n ≤ mostN k) ∧ ∀ x ∈ args, x.chk = 0 := by
  rw [Ask.chk] at h
  split at h
  · split at h
    · split at h
      · exact ⟨‹_›, ‹_›, ‹_›, chkL_zero h⟩
      · cases h
    · cases h
  · cases h
/-- CheckAsk -/
def Ask.err (q : Ask) : Int := if 15 < q.size 15 then 2 else q.chk

theorem args_any (k : Int) (w : World) : Calls Tryd.prog 41 #[.int .i64 k] w fun r w' => r = .returned (.int .i64 (if 1 ≤ k ∧ k ≤ 14 then arity k else -1)) ∧ w = w' := by
  go_enter Tryd.func41, Tryd.ntmps41
  go_wp2
  all_goals go_ret
  all_goals refine ⟨ret_int ?_, rfl⟩
  all_goals simp_all [arity]
  all_goals omega
theorem askArgs_any (k : Int) (w : World) : Calls Tryd.prog 25 #[.int .i64 k] w fun r w' => r = .returned (.int .i64 (arity k)) ∧ w = w' := by
  go_enter Tryd.func25, Tryd.ntmps25
  go_wp2
  all_goals go_ret
  all_goals refine ⟨ret_int ?_, rfl⟩
  all_goals simp_all [arity]
theorem within_any (n a b : Int) (w : World) : Calls Tryd.prog 65 #[.int .i64 n, .int .i64 a, .int .i64 b] w fun r w' => r = .returned (.bool (decide (a ≤ n ∧ n ≤ b))) ∧ w = w' := by
  go_enter Tryd.func65, Tryd.ntmps65
  go_wp2
  all_goals go_ret
  all_goals refine ⟨ret_bool ?_, rfl⟩
  all_goals simp_all
  all_goals omega
theorem number_any (q : Ask) (val : Value) (w : World) (h : AskV w q val) : Calls Tryd.prog 42 #[val] w fun r w' => r = .returned (.bool (decide (leastN q.kind ≤ q.n ∧ q.n ≤ mostN q.kind))) ∧ Bel w w' := by
  obtain ⟨v, rfl, A, c, rfl, _⟩ := h
  generalize q.kind = k
  generalize q.n = n
  generalize q.args.length = m
  go_enter Tryd.func42, Tryd.ntmps42
  go_wp2_with (go_at_call 65; refine (within_any _ _ _ _).mono ?_; rintro e w' ⟨rfl, rfl⟩)
  all_goals go_ret
  all_goals refine ⟨ret_bool ?_, (Bel.rfl_ w).al _⟩
  all_goals simp_all [leastN, mostN]
  all_goals (rw [Bool.eq_iff_iff]; simp; omega)

end Go.Proofs.YtegknpffiaeohaaDoor

namespace Go.Proofs.YtegknpffiaeohaaDoor
open Go.RowKit

set_option maxRecDepth 20000 in
theorem size_step (k n : Int) (args : List Ask) (IH : ∀ x ∈ args, ∀ (m : Int) (val : Value) (W : World), 0 ≤ m → m ≤ 15 → AskV W x val →
      Calls Tryd.prog 29 #[val, .int .i64 m] W fun r w' => r = .returned (.int .i64 (x.size m)) ∧ Bel W w')
    (m : Int) (val : Value) (w : World) (h0 : 0 ≤ m) (h15 : m ≤ 15) (h : AskV w (.mk k n args) val) :
    Calls Tryd.prog 29 #[val, .int .i64 m] w fun r w' => r = .returned (.int .i64 ((Ask.mk k n args).size m)) ∧ Bel w w' := by
  obtain ⟨v, rfl, A, c, rfl, hc, hm, hA⟩ := h
  have HI := Lib.hid IH; clear IH
  have HA := Lib.hid hA; clear hA
  have HT : Hid (sizeL args 1 m = (Ask.mk k n args).size m) := Lib.hid (by rw [Ask.size])
  generalize (Ask.mk k n args).size m = T at HT ⊢
  have hlm : args.length ≤ 9223372036854775807 := by have := hm.1; simp only [maxLen] at this; simp only [Ask.args] at hc; omega
  simp only [Ask.kind, Ask.n, Ask.args] at HA hc ⊢
  clear hm
  go_enter Tryd.func29, Tryd.ntmps29
  go_wp2
  go_loopw [5, 11] (fun a i wr => ∃ (j : Nat) (x : Int), a = .int .i64 x ∧ i = .int .i64 j ∧ j ≤ args.length ∧ 1 ≤ x ∧ x ≤ m + 1 ∧ Hid (sizeL (args.drop j) x m = T) ∧ Hid (Bel w wr)) (fun _ i _ => args.length - (intOf i).toNat)
  case atStart => exact ⟨0, 1, rfl, rfl, by omega, by omega, by omega, by simpa using HT, (Bel.rfl_ w).al _⟩
  case round =>
    obtain ⟨j, x, rfl, rfl, hj, hx1, hx2, HS, HB⟩ := hrel
    clear HT
    by_cases hlt : j < args.length
    · obtain ⟨q, hq⟩ : ∃ e, args[j]? = some e := ⟨_, List.getElem?_eq_getElem hlt⟩
      obtain ⟨b, o, rfl, hA⟩ := HA.out (by omega)
      obtain ⟨B, mm, cc, hs, y0, y1, y2⟩ := askR.cells hA hq
      have y0 := HB.out.cell y0
      have y1 := HB.out.cell y1
      have y2 := HB.out.cell y2
      have HQ := Lib.hid hq; have HSL := Lib.hid (hs.keep HB.out); clear hq hs hA HA
      generalize hk : q.kind = qk at *
      generalize hn : q.n = qn at *
      have HK := Lib.hid hk; have HN := Lib.hid hn; clear hk hn
      by_cases hmx : m < x
      · have HR : Hid (x = T) := Lib.hid (by have := HS.out; rw [sizeL_drop HQ.out, if_pos hmx] at this; exact this)
        go_wp2
        go_ret
        exact ⟨by rw [HR.out]; rfl, HB.out.al _⟩
      · have HR : Hid (sizeL (args.drop (j + 1)) (x + q.size (m - x)) m = T) := Lib.hid (by have := HS.out; rw [sizeL_drop HQ.out, if_neg hmx] at this; exact this)
        have hle := Ask.size_le q (m - x) (by omega)
        go_wp2_with fail
        refine (HI.out q (List.mem_of_getElem? HQ.out) (m - x) _ _ (by omega) (by omega) ⟨_, by rw [HK.out, HN.out], HSL.out.keep ((Bel.rfl_ _).al _)⟩).mono ?_
        rintro e w' ⟨rfl, hb⟩
        have HB' := Lib.hid ((HB.out.al _).tr hb); clear hb
        generalize q.size (m - x) = z at hle HR
        go_wp2
        go_roundw
        case rel => exact ⟨j + 1, x + z, by go_num, by go_num, by omega, by omega, by omega, HR, HB'⟩
        case measure => simp [intOf]; omega
    · have HR : Hid (x = T) := Lib.hid (by have := HS.out; rw [sizeL_end (by omega)] at this; exact this)
      go_wp2
      go_ret
      exact ⟨by rw [HR.out]; rfl, HB.out⟩

theorem size_any : ∀ (q : Ask) (m : Int) (val : Value) (w : World), 0 ≤ m → m ≤ 15 → AskV w q val →
    Calls Tryd.prog 29 #[val, .int .i64 m] w fun r w' => r = .returned (.int .i64 (q.size m)) ∧ Bel w w' :=
  Ask.ind fun k n args ih m val w h0 h15 h => size_step k n args ih m val w h0 h15 h

set_option maxRecDepth 20000 in
theorem askParts_step (k n : Int) (args : List Ask) (IH : ∀ x ∈ args, ∀ (m : Int) (val : Value) (W : World), 0 ≤ m → m ≤ 15 → AskV W x val →
      Calls Tryd.prog 22 #[val, .int .i64 m] W fun r w' => r = .returned (.int .i64 (x.size m)) ∧ Bel W w')
    (m : Int) (val : Value) (w : World) (h0 : 0 ≤ m) (h15 : m ≤ 15) (h : AskV w (.mk k n args) val) :
    Calls Tryd.prog 22 #[val, .int .i64 m] w fun r w' => r = .returned (.int .i64 ((Ask.mk k n args).size m)) ∧ Bel w w' := by
  obtain ⟨v, rfl, A, c, rfl, hc, hm, hA⟩ := h
  have HI := Lib.hid IH; clear IH
  have HA := Lib.hid hA; clear hA
  have HT : Hid (sizeL args 1 m = (Ask.mk k n args).size m) := Lib.hid (by rw [Ask.size])
  generalize (Ask.mk k n args).size m = T at HT ⊢
  have hlm : args.length ≤ 9223372036854775807 := by have := hm.1; simp only [maxLen] at this; simp only [Ask.args] at hc; omega
  simp only [Ask.kind, Ask.n, Ask.args] at HA hc ⊢
  clear hm
  go_enter Tryd.func22, Tryd.ntmps22
  go_wp2
  go_loopw [5, 6] (fun a i wr => ∃ (j : Nat) (x : Int), a = .int .i64 x ∧ i = .int .i64 j ∧ j ≤ args.length ∧ 1 ≤ x ∧ x ≤ m + 1 ∧ Hid (sizeL (args.drop j) x m = T) ∧ Hid (Bel (w.alloc (.cells #[.int .i64 k, .int .i64 n, .slice A args.length c] 24)) wr)) (fun _ i _ => args.length - (intOf i).toNat)
  case atStart => exact ⟨0, 1, rfl, rfl, by omega, by omega, by omega, by simpa using HT, Bel.rfl_ _⟩
  case round =>
    obtain ⟨j, x, rfl, rfl, hj, hx1, hx2, HS, HB⟩ := hrel
    clear HT
    have z2 : wr.cell? ⟨w.heap.size, 2, none⟩ = some (.slice A args.length c) := ((Blk.new w 24 #[.int .i64 k, .int .i64 n, .slice A args.length c]).keep HB.out).cell rfl
    have HB1 := Lib.hid (((Bel.rfl_ w).al _).tr HB.out)
    by_cases hlt : j < args.length
    · obtain ⟨q, hq⟩ : ∃ e, args[j]? = some e := ⟨_, List.getElem?_eq_getElem hlt⟩
      obtain ⟨b, o, rfl, hA⟩ := HA.out (by omega)
      obtain ⟨B, mm, cc, hs, y0, y1, y2⟩ := askR.cells hA hq
      have y0 := HB1.out.cell y0
      have y1 := HB1.out.cell y1
      have y2 := HB1.out.cell y2
      have HQ := Lib.hid hq; have HSL := Lib.hid (hs.keep HB1.out); clear hq hs hA HA
      generalize hk : q.kind = qk at *
      generalize hn : q.n = qn at *
      have HK := Lib.hid hk; have HN := Lib.hid hn; clear hk hn
      by_cases hmx : m < x
      · have HR : Hid (x = T) := Lib.hid (by have := HS.out; rw [sizeL_drop HQ.out, if_pos hmx] at this; exact this)
        go_wp2
        go_ret
        exact ⟨by rw [HR.out]; rfl, HB1.out⟩
      · have HR : Hid (sizeL (args.drop (j + 1)) (x + q.size (m - x)) m = T) := Lib.hid (by have := HS.out; rw [sizeL_drop HQ.out, if_neg hmx] at this; exact this)
        have hle := Ask.size_le q (m - x) (by omega)
        have hxm : x ≤ m := by omega
        go_wp2_with fail
        refine (HI.out q (List.mem_of_getElem? HQ.out) (m - x) _ _ (by omega) (by omega) ⟨_, by rw [HK.out, HN.out], HSL.out⟩).mono ?_
        rintro e w' ⟨rfl, hb⟩
        have HB' := Lib.hid (HB.out.tr hb); clear hb
        generalize q.size (m - x) = z at hle HR
        go_wp2
        go_roundw
        case rel => exact ⟨j + 1, x + z, by go_num, by go_num, by omega, by omega, by omega, HR, HB'⟩
        case measure => simp [intOf]; omega
    · have HR : Hid (x = T) := Lib.hid (by have := HS.out; rw [sizeL_end (by omega)] at this; exact this)
      go_wp2
      go_ret
      exact ⟨by rw [HR.out]; rfl, HB1.out⟩

theorem askParts_any : ∀ (q : Ask) (m : Int) (val : Value) (w : World), 0 ≤ m → m ≤ 15 → AskV w q val →
    Calls Tryd.prog 22 #[val, .int .i64 m] w fun r w' => r = .returned (.int .i64 (q.size m)) ∧ Bel w w' :=
  Ask.ind fun k n args ih m val w h0 h15 h => askParts_step k n args ih m val w h0 h15 h

end Go.Proofs.YtegknpffiaeohaaDoor

namespace Go.Proofs.YtegknpffiaeohaaDoor
open Go.RowKit

theorem arity_cases (k : Int) : arity k = 0 ∨ arity k = 1 ∨ arity k = 2 := by
  unfold arity
  split
  · exact .inl rfl
  · split
    · exact .inr (.inr rfl)
    · exact .inr (.inl rfl)

theorem number_mk (k n : Int) (args : List Ask) (val : Value) (w : World) (h : AskV w (.mk k n args) val) : Calls Tryd.prog 42 #[val] w fun r w' => r = .returned (.bool (decide (leastN k ≤ n ∧ n ≤ mostN k))) ∧ Bel w w' :=
  number_any (.mk k n args) val w h

set_option maxRecDepth 20000 in
theorem parts_step (k n : Int) (args : List Ask) (IH : ∀ x ∈ args, ∀ (val : Value) (W : World), AskV W x val →
      Calls Tryd.prog 30 #[val] W fun r w' => r = .returned (.int .i64 x.chk) ∧ Bel W w')
    (val : Value) (w : World) (h : AskV w (.mk k n args) val) :
    Calls Tryd.prog 30 #[val] w fun r w' => r = .returned (.int .i64 (Ask.mk k n args).chk) ∧ Bel w w' := by
  obtain ⟨v, rfl, hsl⟩ := h
  have HSL := Lib.hid hsl
  obtain ⟨A, c, rfl, hc, hm, hA⟩ := hsl
  have HI := Lib.hid IH; clear IH
  have HA := Lib.hid hA; clear hA
  have HT : Hid ((if 1 ≤ k ∧ k ≤ 14 then if (args.length : Int) = arity k then if leastN k ≤ n ∧ n ≤ mostN k then chkL args else 3 else 1 else 7) = (Ask.mk k n args).chk) := Lib.hid (by rw [Ask.chk])
  generalize (Ask.mk k n args).chk = T at HT ⊢
  have hlm : args.length ≤ 9223372036854775807 := by have := hm.1; simp only [maxLen] at this; simp only [Ask.args] at hc; omega
  simp only [Ask.kind, Ask.n, Ask.args] at HA hc HSL ⊢
  clear hm
  have HAR := Lib.hid (args_any k)
  have har := arity_cases k
  have HN := Lib.hid (fun W val h => number_mk k n args val W h)
  by_cases h1 : 1 ≤ k ∧ k ≤ 14
  · rw [if_pos h1] at HAR HT
    have H1 := Lib.hid h1; clear h1
    generalize arity k = a at *
    by_cases h2 : (args.length : Int) = a
    · rw [if_pos h2] at HT
      cases h3 : decide (leastN k ≤ n ∧ n ≤ mostN k) with
      | false =>
        rw [h3] at HN
        rw [if_neg (of_decide_eq_false h3)] at HT
        clear h3
        go_enter Tryd.func30, Tryd.ntmps30
        go_wp2_with fail
        refine (HAR.out _).mono ?_
        rintro e w' ⟨rfl, rfl⟩
        go_wp2_with fail
        refine (HN.out _ _ ⟨_, rfl, HSL.out.keep ((Bel.rfl_ w).al _)⟩).mono ?_
        rintro e w' ⟨rfl, hb⟩
        have HB := Lib.hid (((Bel.rfl_ w).al _).tr hb); clear hb
        go_wp2
        go_ret
        exact ⟨by rw [← HT.out]; rfl, HB.out⟩
      | true =>
        rw [h3] at HN
        rw [if_pos (of_decide_eq_true h3)] at HT
        clear h3
        go_enter Tryd.func30, Tryd.ntmps30
        go_wp2_with fail
        refine (HAR.out _).mono ?_
        rintro e w' ⟨rfl, rfl⟩
        go_wp2_with fail
        refine (HN.out _ _ ⟨_, rfl, HSL.out.keep ((Bel.rfl_ w).al _)⟩).mono ?_
        rintro e w' ⟨rfl, hb⟩
        have HB0 := Lib.hid (((Bel.rfl_ w).al _).tr hb)
        have z2 : w'.cell? ⟨w.heap.size, 2, none⟩ = some (.slice A args.length c) := ((Blk.new w 24 #[.int .i64 k, .int .i64 n, .slice A args.length c]).keep hb).cell rfl
        clear hb
        go_wp2
        go_loopw [26] (fun i wr => ∃ (j : Nat), i = .int .i64 j ∧ j ≤ args.length ∧ Hid (chkL (args.drop j) = T) ∧ Hid (Bel w wr)) (fun i _ => args.length - (intOf i).toNat)
        case atStart => exact ⟨0, rfl, by omega, by simpa using HT, HB0⟩
        case round =>
          obtain ⟨j, rfl, hj, HS, HB⟩ := hrel
          clear HT
          by_cases hlt : j < args.length
          · obtain ⟨q, hq⟩ : ∃ e, args[j]? = some e := ⟨_, List.getElem?_eq_getElem hlt⟩
            obtain ⟨b, o, rfl, hA⟩ := HA.out (by omega)
            obtain ⟨B, mm, cc, hs, y0, y1, y2⟩ := askR.cells hA hq
            have y0 := HB.out.cell y0
            have y1 := HB.out.cell y1
            have y2 := HB.out.cell y2
            have HQ := Lib.hid hq; have HSQ := Lib.hid (hs.keep HB.out); clear hq hs hA HA
            generalize hk : q.kind = qk at *
            generalize hn : q.n = qn at *
            have HK := Lib.hid hk; have HN := Lib.hid hn; clear hk hn
            have HR : Hid ((if q.chk = 0 then chkL (args.drop (j + 1)) else q.chk) = T) := Lib.hid (by rw [← HS.out, chkL_drop HQ.out])
            go_wp2_with fail
            refine (HI.out q (List.mem_of_getElem? HQ.out) _ _ ⟨_, by rw [HK.out, HN.out], HSQ.out.keep ((Bel.rfl_ _).al _)⟩).mono ?_
            rintro e w' ⟨rfl, hb⟩
            have HB' := Lib.hid ((HB.out.al _).tr hb); clear hb
            generalize q.chk = z at HR
            by_cases hz : z = 0
            · rw [if_pos hz] at HR
              go_wp2
              go_roundw
              case rel => exact ⟨j + 1, by go_num, by omega, HR, HB'⟩
              case measure => simp [intOf]; omega
            · rw [if_neg hz] at HR
              go_wp2
              go_ret
              exact ⟨by rw [← HR.out]; rfl, HB'.out⟩
          · have HR : Hid (0 = T) := Lib.hid (by rw [← HS.out, chkL_end (by omega)])
            go_wp2
            go_ret
            exact ⟨by rw [← HR.out]; rfl, HB.out⟩
    · rw [if_neg h2] at HT
      go_enter Tryd.func30, Tryd.ntmps30
      go_wp2_with fail
      refine (HAR.out _).mono ?_
      rintro e w' ⟨rfl, rfl⟩
      go_wp2
      go_ret
      exact ⟨by rw [← HT.out]; rfl, (Bel.rfl_ w).al _⟩
  · rw [if_neg h1] at HAR HT
    go_enter Tryd.func30, Tryd.ntmps30
    go_wp2_with fail
    refine (HAR.out _).mono ?_
    rintro e w' ⟨rfl, rfl⟩
    go_wp2
    go_ret
    exact ⟨by rw [← HT.out]; rfl, (Bel.rfl_ w).al _⟩

theorem parts_any : ∀ (q : Ask) (val : Value) (w : World), AskV w q val →
    Calls Tryd.prog 30 #[val] w fun r w' => r = .returned (.int .i64 q.chk) ∧ Bel w w' :=
  Ask.ind fun k n args ih val w h => parts_step k n args ih val w h

set_option maxRecDepth 20000 in
theorem check_any (q : Ask) (val : Value) (w : World) (h : AskV w q val) :
    Calls Tryd.prog 12 #[val] w fun r w' => r = .returned (.int .i64 q.err) ∧ Bel w w' := by
  have HS := Lib.hid (fun val W h => size_any q 15 val W (by omega) (by omega) h)
  have HP := Lib.hid (fun val W h => parts_any q val W h)
  have HT : Hid ((if 15 < q.size 15 then 2 else q.chk) = q.err) := Lib.hid rfl
  generalize q.err = T at HT ⊢
  have HH := Lib.hid h
  obtain ⟨v, rfl, hsl⟩ := h
  obtain ⟨A, c, rfl, -⟩ := hsl
  have hsz := Ask.size_le q 15 (by omega)
  generalize q.size 15 = z at *
  go_enter Tryd.func12, Tryd.ntmps12
  go_wp2_with fail
  refine (HS.out _ _ (HH.out.keep ((Bel.rfl_ w).al _))).mono ?_
  rintro e w1 ⟨rfl, hb⟩
  have HB := Lib.hid (((Bel.rfl_ w).al _).tr hb)
  have HH1 := Lib.hid (HH.out.keep HB.out)
  have z0 : w1.cell? ⟨w.heap.size, 0, none⟩ = some (.int .i64 q.kind) := ((Blk.new w 24 #[.int .i64 q.kind, .int .i64 q.n, .slice A q.args.length c]).keep hb).cell rfl
  have z1 : w1.cell? ⟨w.heap.size, 1, none⟩ = some (.int .i64 q.n) := ((Blk.new w 24 #[.int .i64 q.kind, .int .i64 q.n, .slice A q.args.length c]).keep hb).cell rfl
  have z2 : w1.cell? ⟨w.heap.size, 2, none⟩ = some (.slice A q.args.length c) := ((Blk.new w 24 #[.int .i64 q.kind, .int .i64 q.n, .slice A q.args.length c]).keep hb).cell rfl
  clear hb
  by_cases hz : 15 < z
  · rw [if_pos hz] at HT
    go_wp2
    go_ret
    exact ⟨by rw [← HT.out]; rfl, HB.out⟩
  · rw [if_neg hz] at HT
    go_wp2_with fail
    refine (HP.out _ _ HH1.out).mono ?_
    rintro e w2 ⟨rfl, hb⟩
    go_wp2
    go_ret
    exact ⟨by rw [← HT.out]; rfl, HB.out.tr hb⟩

end Go.Proofs.YtegknpffiaeohaaDoor
