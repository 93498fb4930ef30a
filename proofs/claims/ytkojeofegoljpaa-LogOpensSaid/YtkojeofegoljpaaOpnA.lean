/- LogOpens: what a batch finds and leaves: plain law, and what Append, Open and Crash do there. Each lemma states its own conditions. -/
import Derived.Test.YtkojeofegoljpaaLogZ
import Derived.Test.YtkojeofegoljpaaLogS
namespace Go.Proofs.Ytkojeofegoljpaa
open Go.RowKit

/-- a disk of so many sectors on which these batches are -/
structure St (n : Nat) (d : Dk) (bs : List (List Ev)) (need : Int) (i : Nat) : Prop where
  err : d.err = 0
  wr : d.written = []
  len : d.kept.length = n
  load : ∃ t u, loadOf d.kept = some (t, u, bs) ∧ t ≤ i ∧ (u : Int) + 2 ≤ need
  need : 4 ≤ need ∧ need ≤ 4 + 62 * i
  cnt : bs.length ≤ i
  small : ∀ x ∈ bs, x.length ≤ 60
theorem St.more {n : Nat} {d : Dk} {bs : List (List Ev)} {need : Int} {i : Nat} (h : St n d bs need i) : St n d bs need (i + 1) := by
  obtain ⟨h1, h2, h3, ⟨t, u, h4, h5, h6⟩, h7, h8, h9⟩ := h
  exact ⟨h1, h2, h3, ⟨t, u, h4, by omega, h6⟩, by omega, by omega, h9⟩
theorem fmt_err {n : Nat} (h : 4 ≤ n ∧ n ≤ 600) : fmtErr n = 0 := by rw [fmtErr, if_neg (by omega), newErr, if_pos (by omega)]
theorem fmt_bad {n : Int} (h : n < 4 ∨ 600 < n) : fmtErr n = 3 ∧ fmtDk n = noDk := by
  refine ⟨?_, by rw [fmtDk, if_neg (by omega)]⟩
  rw [fmtErr]
  by_cases h4 : n < 4
  · rw [if_pos h4]
  · rw [if_neg h4, newErr, if_neg (by omega)]
theorem St.fmt {n : Nat} (h : 4 ≤ n ∧ n ≤ 600) : St n (fmtDk n) [] 4 0 := by
  have e : fmtDk n = ⟨secS 1001 [0, 2] :: List.replicate (n - 1) (sec 0), []⟩ := by rw [fmtDk, if_pos (by omega), Int.toNat_natCast]
  rw [e]
  have hlen : (secS 1001 [0, 2] :: List.replicate (n - 1) (sec 0)).length = n := by rw [List.length_cons, List.length_replicate]; omega
  refine ⟨Dk.err_of ?_ (fun s hs => ?_) (by simp) (by simp), rfl, hlen, ⟨0, 2, load_fmt n h.1, by omega, by omega⟩, by omega, by simp, by simp⟩
  · show 1 ≤ (secS 1001 [0, 2] :: List.replicate (n - 1) (sec 0)).length ∧ (secS 1001 [0, 2] :: List.replicate (n - 1) (sec 0)).length ≤ 600
    omega
  · rcases List.mem_cons.1 hs with rfl | hs
    · exact secS_size (by simp)
    · rw [(List.mem_replicate.1 hs).2]; exact secZ_size
/-- what Append tells: no room, or all is well -/
theorem St.app {n : Nat} {d : Dk} {bs : List (List Ev)} {need : Int} {i : Nat} (h : St n d bs need i) {l : List Ev} (hl : l.length ≤ 60) (hs : l.all evSmall = true) :
    (appErr d l = 8 ∧ (n : Int) < need + 2 + l.length) ∨ (appErr d l = 0 ∧ ∃ t u, loadOf d.kept = some (t, u, bs) ∧ u + 1 + l.length ≤ d.kept.length ∧ t ≤ i ∧ (u : Int) + 2 ≤ need) := by
  obtain ⟨h1, h2, h3, ⟨t, u, h4, h5, h6⟩, h7, h8, h9⟩ := h
  rw [appErr, if_pos h1, if_neg (by omega), if_pos hs, h4]
  simp only []
  by_cases hu : d.kept.length < u + 1 + l.length
  · rw [if_pos hu]
    exact .inl ⟨rfl, by omega⟩
  · rw [if_neg hu]
    exact .inr ⟨rfl, t, u, rfl, by omega, h5, h6⟩
/-- what a crash leaves -/
theorem St.next {n : Nat} {d : Dk} {bs : List (List Ev)} {need : Int} {i : Nat} (h : St n d bs need i) {l : List Ev} (hl : l.length ≤ 60) (hs : l.all evSmall = true) (hi : i ≤ 40) {t : Int} {u : Nat} (h4 : loadOf d.kept = some (t, u, bs)) (hu : u + 1 + l.length ≤ d.kept.length) (ht : t ≤ i) (hn : (u : Int) + 2 ≤ need)
    (keep : List Bool) {k : Nat} {D : Dk} (hk : (appWays d.kept t u l)[k]? = some D) : D.err = 0 ∧ ∃ os, opErr (D.crashed keep) = 0 ∧ (∃ t' u', loadOf (D.crashed keep).kept = some (t', u', os)) ∧ (os = bs ∧ k ≠ l.length + 3 ∨ os = bs ++ [l]) ∧
      (os = bs → St n (D.crashed keep) bs need (i + 1)) ∧ (os = bs ++ [l] → St n (D.crashed keep) (bs ++ [l]) (need + (2 + l.length)) (i + 1)) := by
  obtain ⟨e1, e2, e3, -, e7, e8, e9⟩ := h
  obtain ⟨w1, w2, w3⟩ := way_crash e1 h4 (by omega) hs hl hu keep (List.mem_of_getElem? hk)
  obtain ⟨c1, c2, c3⟩ := Dk.crashed_of w1 keep
  have hne : bs ≠ bs ++ [l] := fun h => by have := congrArg List.length h; simp at this
  refine ⟨w1, ?_⟩
  have hop : ∀ t' u' os, loadOf (D.crashed keep).kept = some (t', u', os) → opErr (D.crashed keep) = 0 := fun t' u' os h => by rw [opErr, if_pos c1, h]
  have hsm : ∀ x ∈ bs ++ [l], x.length ≤ 60 := fun x hx => by
    rcases List.mem_append.1 hx with hx | hx
    · exact e9 x hx
    · obtain rfl := List.mem_singleton.1 hx
      exact hl
  rcases w2 with w2 | w2
  · refine ⟨bs, hop _ _ _ w2, ⟨_, _, w2⟩, .inl ⟨rfl, fun hkl => ?_⟩, fun _ => ⟨c1, c3, by rw [c2, w3]; exact e3, ⟨t, u, w2, by omega, hn⟩, by omega, by omega, e9⟩, fun h => absurd h hne⟩
    subst hkl
    rw [ways_last] at hk
    obtain rfl := Option.some.inj hk
    rw [last_crash e1 h4 (by omega) hs hl hu keep] at w2
    injection w2 with w2
    injection w2 with _ w2
    injection w2 with _ w2
    exact hne w2.symm
  · exact ⟨bs ++ [l], hop _ _ _ w2, ⟨_, _, w2⟩, .inr rfl, fun h => absurd h.symm hne, fun _ => ⟨c1, c3, by rw [c2, w3]; exact e3, ⟨t + 1, u + 1 + l.length, w2, by omega, by omega⟩, by omega, by simp; omega, hsm⟩⟩
/-- batches that are lists of what came in, in a row of the call's own -/
def Th (w wr : World) (v : Value) (bs : List (List Ev)) : Prop :=
  ∃ vs : List Value, wr.ownsRow w.heap.size 45 1 v vs.length vs ∧ vs.length = bs.length ∧ ∀ (i : Nat) u l, vs[i]? = some u → bs[i]? = some l → Sl evR w u l
theorem Th.nil (w wr : World) : Th w wr (.slice none 0 0) [] := ⟨[], World.ownsRow_nil _ _ _ _, rfl, fun i u l hu => by simp at hu⟩
theorem Th.keep {w w1 w2 : World} (hb : Bel w1 w2) {v : Value} {bs : List (List Ev)} (h : Th w w1 v bs) : Th w w2 v bs := by
  obtain ⟨vs, h1, h2, h3⟩ := h
  exact ⟨vs, hb.own h1, h2, h3⟩
theorem Th.sl {w wr : World} {v : Value} {bs : List (List Ev)} (hb : Bel w wr) (h : Th w wr v bs) : Sl (Rep.slice evR) wr v bs := by
  obtain ⟨vs, h1, h2, h3⟩ := h
  refine Sl.own (r := Rep.slice evR) h1 h2 fun k x hx => ?_
  obtain ⟨u, hu⟩ : ∃ u, vs[k]? = some u := ⟨_, List.getElem?_eq_getElem (by rw [h2]; exact (List.getElem?_eq_some_iff.1 hx).1)⟩
  refine ⟨u, ?_, (h3 k u x hu hx).keep hb⟩
  show (vs.drop (k * 1)).take 1 = [u]
  rw [Nat.mul_one]
  obtain ⟨hl, rfl⟩ := List.getElem?_eq_some_iff.1 hu
  rw [List.drop_eq_getElem_cons hl]
  rfl
/-- Append at such a disk -/
def OpA (w : World) (n : Nat) (d : Dk) (bs : List (List Ev)) (need : Int) (i : Nat) (l : List Ev) (r : Ending) (w' : World) : Prop :=
  (r = .returned (.tuple #[.agg #[.slice none 0 0, .slice none 0 0], .slice none 0 0, .int .i64 8]) ∧ (n : Int) < need + 2 + l.length) ∨
  ∃ t u X1 g1 X2 g2 A c, r = .returned (.tuple #[.agg #[.slice X1 (appF d.kept t u l).kept.length g1, .slice X2 (appF d.kept t u l).written.length g2], .slice A (l.length + 4) c, .int .i64 0]) ∧ loadOf d.kept = some (t, u, bs) ∧ u + 1 + l.length ≤ d.kept.length ∧ t ≤ i ∧ (u : Int) + 2 ≤ need ∧
    DkV w' (appF d.kept t u l) (.agg #[.slice X1 (appF d.kept t u l).kept.length g1, .slice X2 (appF d.kept t u l).written.length g2]) ∧ WayO w' w.heap.size (.slice A (l.length + 4) c) (appWays d.kept t u l)
theorem St.append {n : Nat} {d : Dk} {bs : List (List Ev)} {need : Int} {i : Nat} (h : St n d bs need i) {l : List Ev} (hl : l.length ≤ 60) (hs : l.all evSmall = true) (val lv : Value) (W : World) (hv : DkV W d val) (hlv : Sl evR W lv l) :
    Calls Try.prog 22 #[val, lv] W fun r w' => OpA W n d bs need i l r w' ∧ Bel W w' := by
  refine (append_any d val lv l W hv (Dk.ok_of h.err) hlv (by omega)).mono fun r w' hp => ?_
  obtain ⟨⟨v, wv, hr, h1, h2⟩, hb⟩ := hp
  refine ⟨?_, hb⟩
  rcases h.app hl hs with ⟨he, hn⟩ | ⟨he, t, u, hlo, hu, ht, hn⟩
  · obtain ⟨rfl, rfl⟩ := h1 (by rw [he]; decide)
    rw [he] at hr
    exact .inl ⟨hr, hn⟩
  · obtain ⟨hd, hw⟩ := h2 he t u bs hlo
    have hw0 := hw
    rw [he] at hr
    obtain ⟨ps, ho, hpn, -⟩ := hw
    rw [hpn, ways_len] at ho
    obtain ⟨g, cap, rfl⟩ := ownsRow_some ho (by omega)
    obtain ⟨X1, g1, X2, g2, rfl, h3, h4⟩ := hd.dkv
    exact .inr ⟨t, u, X1, g1, X2, g2, _, _, hr, hlo, hu, ht, hn, ⟨X1, g1, X2, g2, rfl, h3, h4⟩, hw0⟩

theorem own_lit {w : World} {base : Nat} {e : TypeId} {size n : Nat} {v : Value} {xs : List Value} (h : w.ownsRow base e size v n xs) : ∃ A c, v = .slice A n c ∧ (A = none → c = 0) ∧ (0 < n → ∃ b off, A = some ⟨b, off, none⟩ ∧ CellsAt w b off xs) := by
  rcases h.2 with ⟨rfl, h0⟩ | ⟨g, cap, cur, rfl, _, hg, hnc, hcm, hcs, ht⟩
  · subst h0
    exact ⟨none, 0, rfl, fun _ => rfl, fun h => by omega⟩
  · refine ⟨some ⟨g, 0, none⟩, cap, rfl, (fun h => by cases h), fun _ => ⟨g, 0, rfl, fun j u hu => ?_⟩⟩
    rw [cell_of_row w g _ cur e (0, 0) hg]
    rw [← ht, List.getElem?_take] at hu
    split at hu
    · simpa using hu
    · cases hu
theorem Th.lit {w wr : World} {v : Value} {bs : List (List Ev)} (h : Th w wr v bs) : ∃ A c vs, v = .slice A bs.length c ∧ wr.ownsRow w.heap.size 45 1 (.slice A bs.length c) bs.length vs ∧ vs.length = bs.length * 1 ∧ (∀ (i : Nat) u l, vs[i]? = some u → bs[i]? = some l → Sl evR w u l) ∧ (∀ u ∈ vs, u.oneCell' = true) ∧
    (A = none → c = 0) ∧ (0 < bs.length → ∃ b off, A = some ⟨b, off, none⟩ ∧ CellsAt wr b off vs) := by
  obtain ⟨vs, h1, h2, h3⟩ := h
  rw [h2] at h1
  obtain ⟨A, c, rfl, h4, h5⟩ := own_lit h1
  refine ⟨A, c, vs, rfl, h1, by rw [h2, Nat.mul_one], h3, fun u hu => ?_, h4, h5⟩
  obtain ⟨i, hi, rfl⟩ := List.mem_iff_getElem.1 hu
  obtain ⟨B, d, e, -, -, -⟩ := h3 i _ (bs[i]'(by omega)) (List.getElem?_eq_getElem hi) (List.getElem?_eq_getElem (by omega))
  rw [e]
  rfl
theorem Th.snoc {w wr : World} {v lv : Value} {vs : List Value} {bs : List (List Ev)} {l : List Ev} (hn : vs.length = bs.length * 1) (hall : ∀ (i : Nat) u l, vs[i]? = some u → bs[i]? = some l → Sl evR w u l) (hl : Sl evR w lv l) (h : wr.ownsRow w.heap.size 45 1 v (bs.length + 1) (vs ++ [lv])) : Th w wr v (bs ++ [l]) := by
  rw [Nat.mul_one] at hn
  refine ⟨vs ++ [lv], by rw [List.length_append, hn]; exact h, by simp [hn], fun j x y hx hy => ?_⟩
  by_cases hj : j < vs.length
  · rw [List.getElem?_append_left hj] at hx
    rw [List.getElem?_append_left (by omega)] at hy
    exact hall j x y hx hy
  · obtain rfl : j = vs.length := by
      have := (List.getElem?_eq_some_iff.1 hx).1
      rw [List.length_append, List.length_singleton] at this
      omega
    rw [List.getElem?_append_right (Nat.le_refl _), Nat.sub_self] at hx
    rw [hn, List.getElem?_append_right (Nat.le_refl _), Nat.sub_self] at hy
    cases hx
    cases hy
    exact hl
theorem Th.aside {w wr : World} {v : Value} {bs : List (List Ev)} (h : Th w wr v bs) {S : Nat} {cs : Array Value} (hS : Blk wr S 25 cs) (u1 u2 : Value) : Th w ((wr.setCell ⟨S, 0, none⟩ u1).setCell ⟨S, 1, none⟩ u2) v bs := by
  obtain ⟨vs, h1, h2, h3⟩ := h
  exact ⟨vs, own_aside (own_aside h1 hS (by decide) 0 u1) (hS.set_ 0 u1) (by decide) 1 u2, h2, h3⟩
theorem appF_wr (kept : List ByteArray) (t : Int) (u : Nat) (l : List Ev) : (appF kept t u l).written.length = 0 := by
  unfold appF Dk.flushed
  split <;> rfl

end Go.Proofs.Ytkojeofegoljpaa
