/- Whether it holds at one of the next ones. Each lemma states its own conditions. -/
import Derived.Test.YtegknpffiaeohaaDoorQryG
import Derived.Lib.SliceRun
namespace Go.Proofs.YtegknpffiaeohaaDoor
open Go.RowKit

theorem bools_cells {w : World} {b o : Nat} {xs : List Bool} (h : ∀ k x, xs[k]? = some x → boolR.At w b (o + k * boolR.size) x) : CellsAt w b o (xs.map Value.bool) := by
  intro j u hu
  rw [List.getElem?_map] at hu
  cases hx : xs[j]? with
  | none => rw [hx] at hu; cases hu
  | some x =>
    rw [hx] at hu
    obtain rfl := Option.some.inj hu
    exact boolR.cell h hx
theorem bools_one (xs : List Bool) : ∀ u ∈ xs.map Value.bool, u.oneCell' = true := by
  intro u hu
  obtain ⟨x, _, rfl⟩ := List.mem_map.1 hu
  rfl

set_option maxRecDepth 20000 in
theorem cloneB_any (v : Value) (l : List Bool) (w : World) (h : Sl boolR w v l) (hl : l.length ≤ 4000) :
    Calls Tryd.prog 78 #[v] w fun r w' => ∃ v', r = .returned v' ∧ w'.ownsRow w.heap.size 4 1 v' l.length (l.map Value.bool) ∧ Bel w w' := by
  obtain ⟨A, c, rfl, hc, hm, hA⟩ := h
  have q48 : ∀ (w : World) (a : Option Addr) (n c n' c' : Nat), (binOp .eql 38 (.slice a n c) (.slice none n' c')).run Tryd.prog w = .ok (.bool a.isNone) w := fun w a n c n' c' => Lib.run_eql_slice_nil w _ _ a n c n' c' Tryd.underlying38
  cases A with
  | none =>
    obtain rfl := hm.2 rfl
    have h0 : l = [] := List.eq_nil_of_length_eq_zero (by omega)
    subst h0
    clear hA
    go_enter Tryd.func78, Tryd.ntmps78
    go_wp2
    go_ret
    exact ⟨_, rfl, World.ownsRow_nil _ _ _ _, Bel.rfl_ w⟩
  | some a =>
    have HA : Hid (0 < l.length → ∃ b off, some a = some ⟨b, off, none⟩ ∧ CellsAt (w.alloc (.cells #[] 4)) b off (l.map Value.bool)) := Lib.hid fun hp => by
      obtain ⟨b, o, h1, h2⟩ := hA hp
      exact ⟨b, o, h1, (bools_cells h2).keep ((Bel.rfl_ w).al _)⟩
    clear hA
    go_enter Tryd.func78, Tryd.ntmps78
    go_wp2_with (at_builtin; go_loud (refine wpl_appAll (w.alloc (.cells #[] 4)) rfl (.tmp 5) (.tmp 6) 38 rfl w.heap.size elBool (.slice (some ⟨w.heap.size, 0, none⟩) 0 0) 0 [] rfl (World.ownsRow_made w #[] 0 (Nat.le_refl _) (Nat.zero_le _) rfl) (some a) l.length c (l.map Value.bool) rfl (by simp) (by simp) HA.out (bools_one l) (by simp only [maxLen]; omega) (by omega) (by simp) ?_); intro v' w' hown hg _; have HO := Lib.hid hown; have HG := Lib.hid hg; clear hown hg)
    go_ret
    refine ⟨_, rfl, by simpa using HO.out, ?_⟩
    exact Below.ofGrown (v := .slice (some ⟨w.heap.size, 0, none⟩) 0 0) ((Bel.rfl_ w).al _) (World.ownsRow_made (size := 1) w #[] 0 (Nat.le_refl _) (Nat.zero_le _) rfl) HG.out (Nat.le_refl _) (by simp)

/-- it holds at one of the next ones -/
def soonAt (l : List Bool) (n : Int) (len t : Nat) : Bool := (List.range (len - t)).any fun d => decide ((d : Int) ≤ n) && bg l (t + d)
def soonL (l : List Bool) (n : Int) : List Bool := (List.range l.length).map fun t => soonAt l n l.length t
/-- from t on, it holds next at e -/
def Next (l : List Bool) (t : Nat) (e : Int) (n : Int) : Prop := (∃ u : Nat, e = u ∧ t ≤ u ∧ u < l.length ∧ bg l u = true ∧ ∀ v, t ≤ v → v < u → bg l v = false) ∨ (e = l.length + n + 1 ∧ ∀ v, t ≤ v → v < l.length → bg l v = false)
theorem Next.end_ (l : List Bool) (n : Int) : Next l l.length (l.length + n + 1) n := .inr ⟨rfl, fun v h1 h2 => by omega⟩
theorem Next.here {l : List Bool} {t : Nat} {n : Int} (h : t < l.length) (hb : bg l t = true) : Next l t t n := .inl ⟨t, rfl, Nat.le_refl _, h, hb, fun v h1 h2 => by omega⟩
theorem Next.on {l : List Bool} {t : Nat} {e n : Int} (h : Next l (t + 1) e n) (hb : bg l t = false) : Next l t e n := by
  rcases h with ⟨u, rfl, h1, h2, h3, h4⟩ | ⟨rfl, h⟩
  · exact .inl ⟨u, rfl, by omega, h2, h3, fun v h5 h6 => by rcases Nat.eq_or_lt_of_le h5 with rfl | h7; exact hb; exact h4 v h7 h6⟩
  · exact .inr ⟨rfl, fun v h5 h6 => by rcases Nat.eq_or_lt_of_le h5 with rfl | h7; exact hb; exact h v h7 h6⟩
theorem Next.soon {l : List Bool} {t : Nat} {e n : Int} (h : Next l t e n) (ht : t < l.length) (_hn : 0 ≤ n) : decide (e - t ≤ n) = soonAt l n l.length t := by
  rw [Bool.eq_iff_iff, soonAt, List.any_eq_true, decide_eq_true_eq]
  constructor
  · intro he
    rcases h with ⟨u, rfl, h1, h2, h3, h4⟩ | ⟨rfl, h⟩
    · refine ⟨u - t, by rw [List.mem_range]; omega, ?_⟩
      rw [Bool.and_eq_true, decide_eq_true_eq, show t + (u - t) = u by omega]
      exact ⟨by omega, h3⟩
    · omega
  · rintro ⟨d, hd, h5⟩
    rw [Bool.and_eq_true, decide_eq_true_eq] at h5
    rw [List.mem_range] at hd
    rcases h with ⟨u, rfl, h1, h2, h3, h4⟩ | ⟨rfl, h⟩
    · by_cases hu : t + d < u
      · have := h4 (t + d) (by omega) hu
        rw [h5.2] at this; cases this
      · omega
    · have := h (t + d) (by omega) (by omega)
      rw [h5.2] at this; cases this
theorem Next.le {l : List Bool} {t : Nat} {e n : Int} (h : Next l t e n) (ht : t ≤ l.length) (hn : 0 ≤ n) : t ≤ e ∧ e ≤ l.length + n + 1 := by
  rcases h with ⟨u, rfl, h1, h2, _⟩ | ⟨rfl, _⟩ <;> constructor <;> omega

/-- a block's cells from so many on -/
def SoonRow (l : List Bool) (n : Int) (t : Nat) (cs : Array Value) : Prop := l.length ≤ cs.size ∧ ∀ k, k < l.length → cs[k]? = some (.bool (if t ≤ k then soonAt l n l.length k else bg l k))
theorem SoonRow.step {l : List Bool} {n : Int} {t : Nat} {cs : Array Value} (h : SoonRow l n (t + 1) cs) (ht : t < l.length) : SoonRow l n t (cs.setIfInBounds t (.bool (soonAt l n l.length t))) := by
  refine ⟨by simpa using h.1, fun k hk => ?_⟩
  have h1 := h.1
  by_cases e : t = k
  · subst e
    rw [Array.getElem?_setIfInBounds_self_of_lt (by omega), if_pos (Nat.le_refl _)]
  · rw [Array.getElem?_setIfInBounds_ne e, h.2 k hk]
    have : (t + 1 ≤ k) ↔ (t ≤ k) := by omega
    simp only [this]
theorem SoonRow.own {l : List Bool} {n : Int} {cs : Array Value} {w : World} {base g cap : Nat} (h : SoonRow l n 0 cs) (hb : Blk w g 4 cs) (hc : l.length ≤ cap) (hm : cap ≤ maxLen) (hg : base ≤ g) (hsz : cs.size = cap) : Bs w base (.slice (some ⟨g, 0, none⟩) l.length cap) (soonL l n) := by
  have hl : (soonL l n).length = l.length := by simp [soonL]
  unfold Bs
  rw [hl]
  refine ⟨by simp [hl], .inr ⟨g, cap, cs, rfl, hg, hb, hc, hm, by omega, ?_⟩⟩
  apply List.ext_getElem?
  intro k
  rw [Nat.mul_one, List.getElem?_take, List.getElem?_map]
  by_cases hk : k < l.length
  · have e := h.2 k hk
    rw [if_pos (Nat.zero_le _)] at e
    rw [if_pos hk, soonL, List.getElem?_map, List.getElem?_range hk]
    simpa using e
  · rw [if_neg hk, List.getElem?_eq_none (by omega)]
    rfl

set_option maxRecDepth 20000 in
theorem soon_any (v : Value) (l : List Bool) (n : Int) (w : World) (h : Sl boolR w v l) (hl : l.length ≤ 4000) (hn0 : 0 ≤ n) (hn : n ≤ 4000) :
    Calls Tryd.prog 60 #[v, .int .i64 n] w fun r w' => ∃ v', r = .returned v' ∧ Bs w' w.heap.size v' (soonL l n) ∧ Bel w w' := by
  have HC := Lib.hid (cloneB_any v l w h hl)
  have HSL := Lib.hid h
  obtain ⟨A, c, rfl, hc, hm, hA⟩ := h
  have HA := Lib.hid hA; clear hA
  have hlm : l.length ≤ 9223372036854775807 := by omega
  go_enter Tryd.func60, Tryd.ntmps60
  go_wp2_with fail
  refine HC.out.mono ?_
  rintro r w1 ⟨v', rfl, hown, hb⟩
  have HB0 := Lib.hid hb; clear hb HC
  rcases Nat.eq_zero_or_pos l.length with h0 | h0
  · have e0 : l = [] := List.eq_nil_of_length_eq_zero h0
    have HO := Lib.hid hown; clear hown
    subst e0
    clear HA HSL
    go_wp2
    go_loopw [6, 7] (fun e i wr => e = .int .i64 (n + 1) ∧ i = .int .i64 (-1) ∧ wr = w1) (fun _ _ _ => 0)
    case atStart => exact ⟨by go_num, by go_num, rfl⟩
    case round =>
      obtain ⟨rfl, rfl, rfl⟩ := hrel
      go_wp2
      go_ret
      exact ⟨_, rfl, HO.out, HB0.out⟩
  · obtain ⟨hx1, hx2⟩ := hown
    rcases hx2 with ⟨_, e0⟩ | ⟨g, cap, cur, rfl, hg, hgg, hncap, hcapm, hsz, htake⟩
    · omega
    · have hr0 : SoonRow l n l.length cur := ⟨by omega, fun k hk => by
        have h1 : (cur.toList.take (l.length * 1))[k]? = (l.map Value.bool)[k]? := by rw [htake]
        rw [List.getElem?_take, if_pos (by omega), List.getElem?_map, List.getElem?_eq_getElem hk] at h1
        rw [if_neg (by omega), bg, List.getElem?_eq_getElem hk]
        simpa using h1⟩
      have HR0 := Lib.hid hr0
      have HBK0 := Lib.hid (show Blk w1 g 4 cur from hgg)
      have HCAP := Lib.hid (And.intro hncap hcapm)
      have HGW := Lib.hid hg
      have HSZ0 : Hid (cur.size = cap) := Lib.hid (by omega)
      clear hx1 hgg hsz htake hr0 hncap hcapm hg
      go_wp2
      go_loopw [6, 7] (fun e i wr => ∃ (t : Nat) (x : Int), e = .int .i64 x ∧ i = .int .i64 ((t : Int) - 1) ∧ t ≤ l.length ∧ Hid (Next l t x n) ∧ (∃ cs : Array Value, Hid (SoonRow l n t cs) ∧ Hid (Blk wr g 4 cs) ∧ Hid (cs.size = cap)) ∧ Hid (Bel w wr)) (fun _ i _ => (intOf i + 1).toNat)
      case atStart => exact ⟨l.length, (l.length : Int) + n + 1, by go_num, by go_num, Nat.le_refl _, Next.end_ l n, ⟨_, HR0, HBK0, HSZ0⟩, HB0⟩
      case round =>
        obtain ⟨t, x, rfl, rfl, ht, HN, ⟨cs, HR, HBK, HSZ⟩, HB⟩ := hrel
        have hxl := HN.out.le ht hn0
        clear HR0 HBK0 HB0
        cases t with
        | zero =>
          go_wp2
          go_ret
          exact ⟨_, rfl, HR.out.own HBK.out HCAP.out.1 HCAP.out.2 HGW.out HSZ.out, HB.out⟩
        | succ t =>
          have hti : ((t + 1 : Nat) : Int) - 1 = t := by omega
          rw [hti]
          obtain ⟨b, hb, eb⟩ := bg_get (l := l) (i := t) (by omega)
          obtain ⟨g0, o0, rfl, hc0⟩ := HA.out (by omega)
          have z0 := HB.out.cell (boolR.cell hc0 hb)
          have f0 := HBK.out.frozen t
          have c0 : wr.cell? ⟨g, t, none⟩ = some (.bool (bg l t)) := by
            have := HR.out.2 t (by omega)
            rw [if_neg (by omega)] at this
            exact HBK.out.cell this
          clear hc0 hb HA
          cases b with
          | true =>
            have HS : Hid (true = soonAt l n l.length t) := Lib.hid (by rw [← (Next.here (n := n) (by omega) eb).soon (by omega) hn0, eq_comm, decide_eq_true_eq]; omega)
            have HN' := Lib.hid (Next.here (n := n) (l := l) (t := t) (by omega) eb)
            go_wp2
            go_roundw
            case rel => exact ⟨t, t, rfl, by go_num, by omega, HN', ⟨_, (by unfold Hid; exact HR.out.step (by omega)), (by unfold Hid; rw [← HS.out]; exact HBK.out.set_ t _), (by unfold Hid; rw [Array.size_setIfInBounds]; exact HSZ.out)⟩, by unfold Hid; exact HB.out.setCell HGW.out _⟩
            case measure => simp [intOf]
          | false =>
            have HS : Hid (decide (x - t ≤ n) = soonAt l n l.length t) := Lib.hid ((HN.out.on eb).soon (by omega) hn0)
            have HN' := Lib.hid (HN.out.on eb)
            go_wp2
            go_roundw
            case rel => exact ⟨t, x, rfl, by go_num, by omega, HN', ⟨_, (by unfold Hid; exact HR.out.step (by omega)), (by unfold Hid; rw [← HS.out]; exact HBK.out.set_ t _), (by unfold Hid; rw [Array.size_setIfInBounds]; exact HSZ.out)⟩, by unfold Hid; exact HB.out.setCell HGW.out _⟩
            case measure => simp [intOf]

end Go.Proofs.YtegknpffiaeohaaDoor
