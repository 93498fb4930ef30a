/- A sector written: walked. Each lemma states its own conditions. -/
import Derived.Test.YtkojeofegoljpaaDskD
import Derived.Test.YtkojeofegoljpaaOwn2
import Derived.Deep.RegionHeld3
import Derived.RangeFuncBox
namespace Go.Proofs.Ytkojeofegoljpaa
open Go.RowKit

theorem grown_cell (w : World) (S i : Nat) (u : Value) : w.grownBy (w.setCell ⟨S, i, none⟩ u) (some S) := ⟨rfl, rfl, rfl, by simp, fun k _ hne => heap_setCell_other w ⟨S, i, none⟩ k u fun e => hne (by rw [e])⟩
/-- a row of the call's own stays where a variable of another type turns -/
theorem own_aside {w : World} {base : Nat} {e : TypeId} {size : Nat} {v : Value} {n : Nat} {xs : List Value} (h : w.ownsRow base e size v n xs) {S : Nat} {t : TypeId} {cs : Array Value} (hS : Blk w S t cs) (ht : e ≠ t) (i : Nat) (u : Value) : (w.setCell ⟨S, i, none⟩ u).ownsRow base e size v n xs :=
  h.kept (grown_cell w S i u) (.inr fun hh => hS.ne_own h ht hh.symm)
theorem rows_far {w : World} {b1 b2 : Nat} {e1 e2 : TypeId} {s1 s2 n1 n2 : Nat} {v1 v2 : Value} {x1 x2 : List Value} (h1 : w.ownsRow b1 e1 s1 v1 n1 x1) (h2 : w.ownsRow b2 e2 s2 v2 n2 x2) (he : e1 ≠ e2) : v1.ownBlock = none ∨ v1.ownBlock ≠ v2.ownBlock := by
  rcases h1.2 with ⟨rfl, _⟩ | ⟨g1, c1, cur1, rfl, _, hg1, _⟩
  · exact .inl rfl
  · refine .inr ?_
    rcases h2.2 with ⟨rfl, _⟩ | ⟨g2, c2, cur2, rfl, _, hg2, _⟩
    · simp [Value.ownBlock]
    · intro h
      have : g1 = g2 := by simpa [Value.ownBlock] using h
      subst this
      rw [hg1] at hg2
      injection hg2 with hg2
      injection hg2 with _ h _
      exact he h
theorem keepB {B : Nat} {w w' : World} (hb : Below B w w') {Q : Nat} (hQ : Q < B) {x y : Value} (h : w.cell? ⟨Q, 0, none⟩ = some x ∧ w.cell? ⟨Q, 1, none⟩ = some y) : w'.cell? ⟨Q, 0, none⟩ = some x ∧ w'.cell? ⟨Q, 1, none⟩ = some y :=
  ⟨(Below.cell hb (p := ⟨Q, 0, none⟩) hQ).trans h.1, (Below.cell hb (p := ⟨Q, 1, none⟩) hQ).trans h.2⟩
theorem keep2 {w w' : World} (hb : Bel w w') {Q : Nat} {x y : Value} (h : w.cell? ⟨Q, 0, none⟩ = some x ∧ w.cell? ⟨Q, 1, none⟩ = some y) : w'.cell? ⟨Q, 0, none⟩ = some x ∧ w'.cell? ⟨Q, 1, none⟩ = some y := ⟨hb.cell h.1, hb.cell h.2⟩
theorem srcSize {a b c : World} (h : Bel a b) (_ : Bel b c) : a.heap.size ≤ b.heap.size := h.size
theorem step_appAll {P : Program} (W : World) {ops : Array Oper} {o : Oper} {a : Act} {K : Act → World → Prop} {Q : Exit → Act → World → Prop} {EE : Prop} (hgd : o.guard = none) (s x : Operand) (t : TypeId)
    (ho : o.op = .call { callee := .builtin .append, args := #[s, x], argTypes := #[t, t] }) (base : Nat) {e : TypeId} {size bytes : Nat} (E : Elem P t e size bytes)
    (v : Value) (n : Nat) (xs : List Value) (hs : a.eval s = v) (hown : W.ownsRow base e size v n xs) (A : Option Addr) (m c : Nat) (news : List Value) (hx : a.eval x = .slice A m c)
    (hl : news.length = m * size) (hN : A = none → c = 0) (hc : 0 < m → ∃ b off, A = some ⟨b, off, none⟩ ∧ CellsAt W b off news) (h1 : ∀ u ∈ news, u.oneCell' = true)
    (h63 : n + m ≤ maxLen) (hbytes : (n + m) * bytes ≤ 140737488355328) (hbase : base ≤ W.heap.size)
    (h : ∀ v' w', w'.ownsRow base e size v' (n + m) (xs ++ news) → W.grownBy w' v.ownBlock → (v'.ownBlock = v.ownBlock ∨ v'.ownBlock = some W.heap.size) → K (a.put o.dst v') w') : if Region.wanted o (yielded ops a.tmps) = true then Oper.wp P o a W K Q else EE := by
  have hw : Region.wanted o (yielded ops a.tmps) = true := by simp [Region.wanted, hgd]
  rw [if_pos hw]
  exact wp_appAll W s x t ho base E v n xs hs hown A m c news hx hl hN hc h1 h63 hbytes hbase h
theorem Blk.cells2 {w : World} {g : Nat} {t : TypeId} {x y : Value} (h : Blk w g t #[x, y]) : 0 < 1 → ∃ b off, some (⟨g, 0, none⟩ : Addr) = some ⟨b, off, none⟩ ∧ CellsAt w b off [x, y] :=
  fun _ => ⟨g, 0, rfl, fun j u hu => by rw [Nat.zero_add]; exact h.cell (by simpa using hu)⟩
def emptyD : Value := .agg #[.slice none 0 0, .slice none 0 0]
theorem DkV.empty (w : World) : DkV w ⟨[], []⟩ emptyD := ⟨none, 0, none, 0, rfl, Sl.nil_ _ _, Sl.nil_ _ _⟩

set_option maxRecDepth 20000 in
set_option maxHeartbeats 1000000 in
theorem put_any (d : Dk) (val : Value) (n : Int) (s : ByteArray) (w : World) (h : DkV w d val) (hk : d.kept.length ≤ 600) (hw : d.written.length ≤ 600) :
    Calls Try.prog 39 #[val, .int .i64 n, .string s] w fun r w' => ∃ val', r = .returned val' ∧ DkV w' ⟨d.kept, d.written ++ [⟨n, s⟩]⟩ val' ∧ Bel w w' := by
  obtain ⟨A1, c1, A2, c2, rfl, h1, h2⟩ := h
  have HC1 := Lib.hid (fun W (hb : Bel w W) => cloneS_any _ d.kept W (h1.keep hb) hk)
  have HC2 := Lib.hid (fun W (hb : Bel w W) => cloneW_any _ d.written W (h2.keep hb) hw)
  have HK := Lib.hid hk
  clear h1 h2 hk
  generalize d.kept = ks at *
  generalize d.written = ws at *
  go_enter Try.func39, Try.ntmps39
  go_wp2
  have hW0 : Bel w ((w.alloc (.cells #[.slice A1 ks.length c1, .slice A2 ws.length c2] 25)).alloc (.cells #[.slice none 0 0, .slice none 0 0] 25)) := ((Bel.rfl_ w).al _).al _
  have hQ := (Blk.new w 25 #[.slice A1 ks.length c1, .slice A2 ws.length c2]).keep ((Bel.rfl_ _).al (.cells #[.slice none 0 0, .slice none 0 0] 25))
  have hR := Blk.new (w.alloc (.cells #[.slice A1 ks.length c1, .slice A2 ws.length c2] 25)) 25 #[.slice none 0 0, .slice none 0 0]
  rw [World.size_alloc] at hR
  have q0 : ((w.alloc (.cells #[.slice A1 ks.length c1, .slice A2 ws.length c2] 25)).alloc (.cells #[.slice none 0 0, .slice none 0 0] 25)).cell? ⟨w.heap.size, 0, none⟩ = some (.slice A1 ks.length c1) := hQ.cell (i := 0) rfl
  have q1 : ((w.alloc (.cells #[.slice A1 ks.length c1, .slice A2 ws.length c2] 25)).alloc (.cells #[.slice none 0 0, .slice none 0 0] 25)).cell? ⟨w.heap.size, 1, none⟩ = some (.slice A2 ws.length c2) := hQ.cell (i := 1) rfl
  have HW0 := Lib.hid hW0
  have HR := Lib.hid hR
  have hsz : ((w.alloc (.cells #[.slice A1 ks.length c1, .slice A2 ws.length c2] 25)).alloc (.cells #[.slice none 0 0, .slice none 0 0] 25)).heap.size = w.heap.size + 2 := by simp
  have HSZ := Lib.hid hsz
  clear hW0 hQ hR hsz
  generalize hW : (w.alloc (.cells #[.slice A1 ks.length c1, .slice A2 ws.length c2] 25)).alloc (.cells #[.slice none 0 0, .slice none 0 0] 25) = W0 at *
  clear hW
  have hbW := Lib.hid (Bel.rfl_ W0)
  have HT1 : Hid (∀ u ∈ [Value.int .i64 n, .string s], u.oneCell' = true) := Lib.hid (by simp [Value.oneCell'])
  have HT3 : Hid (ws.length + 1 ≤ maxLen) := Lib.hid (by simp only [maxLen]; omega)
  have HT4 : Hid ((ws.length + 1) * 24 ≤ 140737488355328) := Lib.hid (by omega)
  go_region_held3 (fun w' => w'.cell? ⟨w.heap.size, 0, none⟩ = some (.slice A1 ks.length c1) ∧ w'.cell? ⟨w.heap.size, 1, none⟩ = some (.slice A2 ws.length c2))
    (first | (refine keep2 (w := W0) ?_ ⟨q0, q1⟩; (repeat (first | exact Bel.rfl_ _ | exact hbW.out | apply Bel.dr | apply Bel.al)); done) | (refine keepB (B := w.heap.size + 1) (w := W0) ?_ (Nat.lt_succ_self _) ⟨q0, q1⟩; (repeat (first | exact hB4.out | (refine Below.setCell ?_ (by simp) _))); done))
    (first
      | (go_at_call 67; refine (HC1.out _ ?_).mono ?_; (refine HW0.out.tr ?_; (repeat (first | exact Bel.rfl_ _ | exact hbW.out | apply Bel.dr | apply Bel.al))); rintro r w2 ⟨v1, rfl, ho1, hb1⟩; have hbW := Lib.hid (Bel.tr (a := W0) (by repeat (first | exact Bel.rfl_ _ | exact hbW.out | apply Bel.dr | apply Bel.al)) hb1); obtain ⟨E1, f1, rfl, -⟩ := Sl.own_str ho1 rfl; have HO1 := Lib.hid ho1; (first | (have hz := (Blk.new W0.drew 71 #[.int .i64 n, .string s]).keep hb1; have HZ := Lib.hid hz; clear hz) | skip); clear ho1 hb1)
      | (go_at_call 68; refine (HC2.out _ ?_).mono ?_; (refine HW0.out.tr ?_; (repeat (first | exact Bel.rfl_ _ | exact hbW.out | apply Bel.dr | apply Bel.al))); rintro r w3 ⟨v2, rfl, ho2, hb2⟩; have HB23 := Lib.hid hb2; have hbW0 := hbW; have hbW := Lib.hid (Bel.tr (a := W0) (by repeat (first | exact Bel.rfl_ _ | exact hbW.out | apply Bel.dr | apply Bel.al)) hb2); have HO2 := Lib.hid ho2; have HBB := Lib.hid (srcSize (a := W0) (by repeat (first | exact Bel.rfl_ _ | exact hbW0.out | apply Bel.dr | apply Bel.al)) hb2); (first | (have hz := (Blk.new w2 71 #[.int .i64 n, .string s]).keep hb2; have HZ := Lib.hid hz; clear hz) | (have hz := HZ.out.keep hb2; have HZ := Lib.hid hz; clear hz) | skip); have HQ5 := Lib.hid (hb2.size); clear ho2 hb2)
      | (refine @step_app _ w3 _ _ _ _ _ _ ?_ (.tmp 12) (.tmp 16) 23 ?_ _ _ _ _ elWr v2 ws.length _ ?_ HO2.out [.int .i64 n, .string s] w3.heap.size rfl ?_ ?_ HT1.out HT3.out HT4.out HQ5.out ?_ _ ?_; exact rfl; exact rfl; exact rfl; exact rfl; exact rfl; rotate_left; exact rfl; intro g cap w4 hown4 hg4 _; have HO4 := Lib.hid hown4; have HG4 := Lib.hid hg4; have hs4 := (HR.out.keep hbW.out).grown hg4 ((HR.out.keep hbW.out).ne_own HO2.out (by decide)); have d0 := hs4.cell (i := 0) rfl; have d1 := hs4.cell (i := 1) rfl; have e0 := hs4.frozen 0; have e1 := hs4.frozen 1; have HS4 := Lib.hid hs4; have HBASE := Lib.hid (Nat.le_trans (show w.heap.size + 1 ≤ W0.heap.size by rw [HSZ.out]; omega) HBB.out); have hB4 := Lib.hid (Below.ofGrown (Below.mono hbW.out (by rw [HSZ.out]; omega)) HO2.out hg4 HBASE.out (Nat.le_trans HBASE.out HQ5.out)); clear hown4 hg4 hs4)
      | (refine @step_appAll _ w3 _ _ _ _ _ _ ?_ (.tmp 12) (.tmp 16) 23 ?_ _ _ _ _ elWr v2 ws.length _ ?_ HO2.out _ 1 1 [.int .i64 n, .string s] ?_ rfl ?_ HZ.out.cells2 HT1.out HT3.out HT4.out HQ5.out ?_; exact rfl; exact rfl; exact rfl; exact rfl; (intro hh; cases hh); intro v4 w4 hown4 hg4 _; obtain ⟨g, cap, rfl⟩ := ownsRow_succ hown4; have HO4 := Lib.hid hown4; have HG4 := Lib.hid hg4; have hs4 := (HR.out.keep hbW.out).grown hg4 ((HR.out.keep hbW.out).ne_own HO2.out (by decide)); have d0 := hs4.cell (i := 0) rfl; have d1 := hs4.cell (i := 1) rfl; have e0 := hs4.frozen 0; have e1 := hs4.frozen 1; have HS4 := Lib.hid hs4; have HBASE := Lib.hid (Nat.le_trans (show w.heap.size + 1 ≤ W0.heap.size by rw [HSZ.out]; omega) HBB.out); have hB4 := Lib.hid (Below.ofGrown (Below.mono hbW.out (by rw [HSZ.out]; omega)) HO2.out hg4 HBASE.out (Nat.le_trans HBASE.out HQ5.out)); clear hown4 hg4 hs4))
  all_goals go_wp2
  all_goals
    have hr : Try.f39.results = #[.cell 6 25] := rfl
    have hs5 := (HS4.out.set_ 0 (.slice E1 ks.length f1)).set_ 1 (.slice (some ⟨g, 0, none⟩) (ws.length + 1) cap)
    have z0 := hs5.cell (i := 0) rfl
    have z1 := hs5.cell (i := 1) rfl
    have ho1 := World.ownsRow.kept (Bel.own (show Bel w2 w3 by first | exact HB23.out | exact Bel.tr ((Bel.rfl_ w2).al _) HB23.out) HO1.out) HG4.out (rows_far (Bel.own (show Bel w2 w3 by first | exact HB23.out | exact Bel.tr ((Bel.rfl_ w2).al _) HB23.out) HO1.out) HO2.out (by decide))
    have ho1 := own_aside (own_aside ho1 HS4.out (by decide) 0 (.slice E1 ks.length f1)) (HS4.out.set_ 0 (.slice E1 ks.length f1)) (by decide) 1 (.slice (some ⟨g, 0, none⟩) (ws.length + 1) cap)
    have ho2 := own_aside (own_aside HO4.out HS4.out (by decide) 0 (.slice E1 ks.length f1)) (HS4.out.set_ 0 (.slice E1 ks.length f1)) (by decide) 1 (.slice (some ⟨g, 0, none⟩) (ws.length + 1) cap)
    have hbl := ((Below.trans HW0.out (Below.mono hB4.out (show w.heap.size ≤ w.heap.size + 1 by omega))).setCell (p := ⟨w.heap.size + 1, 0, none⟩) (by dsimp only; omega) (.slice E1 ks.length f1)).setCell (p := ⟨w.heap.size + 1, 1, none⟩) (by dsimp only; omega) (.slice (some ⟨g, 0, none⟩) (ws.length + 1) cap)
    have hfin : DkV ((w4.setCell ⟨w.heap.size + 1, 0, none⟩ (.slice E1 ks.length f1)).setCell ⟨w.heap.size + 1, 1, none⟩ (.slice (some ⟨g, 0, none⟩) (ws.length + 1) cap)) ⟨ks, ws ++ [⟨n, s⟩]⟩ (.agg #[.slice E1 ks.length f1, .slice (some ⟨g, 0, none⟩) (ws.length + 1) cap]) := by
      refine ⟨E1, f1, some ⟨g, 0, none⟩, cap, by simp, Sl.own_str ho1 rfl, ?_⟩
      have := ho2
      rw [show wrCells ws ++ [Value.int .i64 n, .string s] = wrCells (ws ++ [⟨n, s⟩]) from (wrCells_snoc ws ⟨n, s⟩).symm] at this
      have h3 := Sl.own_wrs this (by simp)
      simpa using h3
    refine bodyPost_ret (v := .agg #[.slice E1 ks.length f1, .slice (some ⟨g, 0, none⟩) (ws.length + 1) cap]) (by simp [results, z0, z1, go_sem]) rfl ⟨_, rfl, hfin, hbl⟩

end Go.Proofs.Ytkojeofegoljpaa
