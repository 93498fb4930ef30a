/- The program's parse: walked. Each lemma states its own conditions. -/
import Derived.Test.YtegknpffiaeohaaDoorPrsG
namespace Go.Proofs.YtegknpffiaeohaaDoor
open Go.RowKit

/-- what tokens are parsed to, their kinds not looked at -/
def parse0 (l : List Tok) (E : Nat) : Ask × Int × Int :=
  match askP l 60 0 with
  | .fail p => (.mk 0 0 [], place l E p, 1)
  | .ok q p => if p < l.length then (.mk 0 0 [], place l E p, 1) else (q, 0, 0)
def ParRes (B : Nat) (w0 : World) (q : Ask × Int × Int) (r : Ending) (w' : World) : Prop :=
  ∃ A c, r = .returned (.tuple #[.agg #[.int .i64 q.1.kind, .int .i64 q.1.n, .slice A q.1.args.length c], .int .i64 q.2.1, .int .i64 q.2.2]) ∧ Sl askR (low B w') (.slice A q.1.args.length c) q.1.args ∧ Bel w0 w'

set_option maxRecDepth 20000 in
set_option maxHeartbeats 1000000 in
theorem parse_any (l : List Tok) (lv : Value) (E g : Nat) (w0 w : World) (hl : Sl tokR w0 lv l) (hn : l.length ≤ 6000) (hok : ∀ t ∈ l, TokOk t) (h0 : Bel w0 w) (hg : w0.heap.size ≤ g) (h : Ps w g lv 0 E) :
    Calls Tryd.prog 32 #[.pointer (some ⟨g, 0, none⟩)] w fun r w' => ParRes w.heap.size w0 (parse0 l E) r w' := by
  have hmf : ∀ (fn : Fn) (first cap : Array Value) (w : World), (Instr.makeFunc fn first cap).run Tryd.prog w = .ok (.func fn first cap) w := fun _ _ _ _ => rfl
  have hglt := h.lt
  have HW0 := Lib.hid ((((Bel.rfl_ w).al (.cells #[.int .i64 0, .int .i64 0, .slice none 0 0] 24)).al (.cells #[.int .i64 0] 3)).al (.cells #[.int .i64 0] 25))
  have HA := Lib.hid (fun W (hb : Bel w W) => ask_any l lv E g w0 hl hn hok hg 60 0 0 W (by omega) (by omega) (by omega) (h0.tr hb) (h.keep hb))
  have HRS : Hid (ResAt (((w.alloc (.cells #[.int .i64 0, .int .i64 0, .slice none 0 0] 24)).alloc (.cells #[.int .i64 0] 3)).alloc (.cells #[.int .i64 0] 25)) w.heap.size 0 0 (.slice none 0 0) 0 0) := Lib.hid ⟨((Blk.new w _ _).keep ((Bel.rfl_ _).al _)).keep ((Bel.rfl_ _).al _), by
    have := (Blk.new (w.alloc (.cells #[.int .i64 0, .int .i64 0, .slice none 0 0] 24)) 3 #[.int .i64 0]).keep ((Bel.rfl_ _).al (.cells #[.int .i64 0] 25))
    rwa [World.size_alloc] at this, by
    have := Blk.new ((w.alloc (.cells #[.int .i64 0, .int .i64 0, .slice none 0 0] 24)).alloc (.cells #[.int .i64 0] 3)) 25 #[.int .i64 0]
    rwa [World.size_alloc, World.size_alloc] at this⟩
  have H0 := Lib.hid h0
  clear h h0
  go_enter_defers Tryd.func32, Tryd.ntmps32
  go_upto_region 2 with fail
  generalize ((w.alloc (.cells #[.int .i64 0, .int .i64 0, .slice none 0 0] 24)).alloc (.cells #[.int .i64 0] 3)).alloc (.cells #[.int .i64 0] 25) = W0 at *
  go_wp2_with fail
  refine (HA.out _ HW0.out).mono ?_
  rintro r w1 hres
  cases hR : askP l 60 0 with
  | fail x =>
    obtain ⟨hg1, rfl⟩ := hres.bad hR
    have HP : Hid (parse0 l E = (.mk 0 0 [], place l E x, 1)) := Lib.hid (by unfold parse0; rw [hR])
    obtain ⟨k0, k1, k2⟩ := HRS.out
    have HRS1 := Lib.hid (show ResAt w1 w.heap.size 0 0 (.slice none 0 0) 0 0 from ⟨k0.grown hg1 (by simp; omega), k1.grown hg1 (by simp; omega), k2.grown hg1 (by simp; omega)⟩)
    have HB1 := Lib.hid (grownBel (H0.out.tr HW0.out) hg hg1)
    have HB2 := Lib.hid (Nat.le_trans H0.out.size (Nat.le_refl _))
    clear hg1 hres hR k0 k1 k2
    go_wp2
    refine leaves_cons (f := 45) (args := #[.pointer (some ⟨w.heap.size, 0, none⟩), .pointer (some ⟨w.heap.size + 1, 0, none⟩), .pointer (some ⟨w.heap.size + 1 + 1, 0, none⟩)]) (by simp) (by simp [go_sem]) ?_
    refine (catch_pan w.heap.size 0 0 0 0 (.slice none 0 0) (place l E x) w1 HRS1.out).mono ?_
    rintro e u' w2 ⟨rfl, rfl, ⟨k0, k1, k2⟩, hb2⟩
    have z0 := k0.cell (i := 0) (v := .int .i64 0) rfl
    have z1 := k0.cell (i := 1) (v := .int .i64 0) rfl
    have z2 := k0.cell (i := 2) (v := .slice none 0 0) rfl
    have z3 := k1.cell (i := 0) (v := .int .i64 (place l E x)) rfl
    have z4 := k2.cell (i := 0) (v := .int .i64 1) rfl
    have HBE := Lib.hid (HB1.out.trans (Below.mono hb2 HB2.out))
    clear k0 k1 k2 hb2
    simp [Leaves, settle, results, Tryd.results32, go_sem, z0, z1, z2, z3, z4]
    rw [HP.out]
    exact ⟨none, 0, rfl, Sl.nil_ _ _, HBE.out⟩
  | ok q p =>
    obtain ⟨hg1, hp1, A1, c1, rfl, hs1⟩ := hres.good hR
    have HPR : Hid (parse0 l E = if p < l.length then (.mk 0 0 [], place l E p, 1) else (q, 0, 0)) := Lib.hid (by unfold parse0; rw [hR])
    obtain ⟨k0, k1, k2⟩ := HRS.out
    replace k0 := k0.grown hg1 (by simp; omega)
    have HRS1 := Lib.hid (show ResAt w1 w.heap.size 0 0 (.slice none 0 0) 0 0 from ⟨k0, k1.grown hg1 (by simp; omega), k2.grown hg1 (by simp; omega)⟩)
    have HB1 := Lib.hid (grownBel (H0.out.tr HW0.out) hg hg1)
    have HB2 := Lib.hid (Nat.le_trans H0.out.size (Nat.le_refl _))
    have HS1 := Lib.hid hs1
    have hwr : w.heap.size < W0.heap.size := HRS.out.1.lt
    have hw3 : w.heap.size + 1 + 1 < W0.heap.size := HRS.out.2.2.lt
    have hw2 : w.heap.size + 1 < W0.heap.size := by omega
    have HP := Lib.hid hp1
    have r0 := k0.cell (i := 0) (v := .int .i64 0) rfl
    have r1 := k0.cell (i := 1) (v := .int .i64 0) rfl
    have r2 := k0.cell (i := 2) (v := .slice none 0 0) rfl
    have f0 := k0.frozen 0
    have f1 := k0.frozen 1
    have f2 := k0.frozen 2
    have HLW := Lib.hid hwr
    clear hg1 hres hR k1 k2 hs1 hp1 HRS k0
    go_upto_region 3 with fail
    clear r0 r1 r2 f0 f1 f2
    obtain ⟨k0, k1, k2⟩ := HRS1.out
    have HRS2 : Hid (ResAt (((w1.setCell ⟨w.heap.size, 0, none⟩ (.int .i64 q.kind)).setCell ⟨w.heap.size, 1, none⟩ (.int .i64 q.n)).setCell ⟨w.heap.size, 2, none⟩ (.slice A1 q.args.length c1)) w.heap.size q.kind q.n (.slice A1 q.args.length c1) 0 0) :=
      Lib.hid ⟨((k0.set_ 0 _).set_ 1 _).set_ 2 _, ((k1.far_ (by omega) 0 _).far_ (by omega) 1 _).far_ (by omega) 2 _, ((k2.far_ (by omega) 0 _).far_ (by omega) 1 _).far_ (by omega) 2 _⟩
    replace HP := Lib.hid (((HP.out.far_ (R := w.heap.size) (by omega) 0 (.int .i64 q.kind)).far_ (R := w.heap.size) (by omega) 1 (.int .i64 q.n)).far_ (R := w.heap.size) (by omega) 2 (.slice A1 q.args.length c1))
    replace HS1 := Lib.hid (((HS1.out.keep (low_set w1 (i := 0) (.int .i64 q.kind) hwr)).keep (low_set _ (i := 1) (.int .i64 q.n) hwr)).keep (low_set _ (i := 2) (.slice A1 q.args.length c1) hwr))
    replace HB1 := Lib.hid (((HB1.out.setCell (p := ⟨w.heap.size, 0, none⟩) HB2.out (.int .i64 q.kind)).setCell (p := ⟨w.heap.size, 1, none⟩) HB2.out (.int .i64 q.n)).setCell (p := ⟨w.heap.size, 2, none⟩) HB2.out (.slice A1 q.args.length c1))
    clear k0 k1 k2 HRS1
    generalize ((w1.setCell ⟨w.heap.size, 0, none⟩ (.int .i64 q.kind)).setCell ⟨w.heap.size, 1, none⟩ (.int .i64 q.n)).setCell ⟨w.heap.size, 2, none⟩ (.slice A1 q.args.length c1) = w2 at *
    replace HP : Hid (Ps w2 g lv p E) := HP
    have HL2 := Lib.hid (hl.keep HB1.out)
    obtain ⟨y0, y1, y2, yf⟩ := HP.out.go
    obtain ⟨LA, lc, rfl, -, -, -⟩ := id HL2.out
    by_cases hp : p < l.length
    · have hd : decide (p < l.length) = true := decide_eq_true hp
      rw [if_pos hp] at HPR
      have HFL := Lib.hid (fun W (hb : Bel w2 W) => fail_any l _ p E g W (HL2.out.keep hb) hn (HP.out.keep hb))
      go_quiet (fail)
      go_wp2_with fail
      refine (HFL.out _ ((Bel.rfl_ w2).drN _)).mono ?_
      rintro r w3 ⟨rfl, hb3⟩
      have hb23 := ((Bel.rfl_ w2).drN _).tr hb3
      obtain ⟨k0, k1, k2⟩ := HRS2.out
      have HRS3 := Lib.hid (show ResAt w3 w.heap.size q.kind q.n (.slice A1 q.args.length c1) 0 0 from ⟨k0.keep hb23, k1.keep hb23, k2.keep hb23⟩)
      replace HB1 := Lib.hid (Bel.tr HB1.out hb23)
      clear k0 k1 k2 hb23 hb3 HRS2 HFL
      go_wp2
      refine leaves_cons (f := 45) (args := #[.pointer (some ⟨w.heap.size, 0, none⟩), .pointer (some ⟨w.heap.size + 1, 0, none⟩), .pointer (some ⟨w.heap.size + 1 + 1, 0, none⟩)]) (by simp) (by simp [go_sem]) ?_
      refine (catch_pan w.heap.size q.kind q.n 0 0 _ (place l E p) w3 HRS3.out).mono ?_
      rintro e u' w4 ⟨rfl, rfl, ⟨k0, k1, k2⟩, hb4⟩
      have z0 := k0.cell (i := 0) (v := .int .i64 0) rfl
      have z1 := k0.cell (i := 1) (v := .int .i64 0) rfl
      have z2 := k0.cell (i := 2) (v := .slice none 0 0) rfl
      have z3 := k1.cell (i := 0) (v := .int .i64 (place l E p)) rfl
      have z4 := k2.cell (i := 0) (v := .int .i64 1) rfl
      have HBE := Lib.hid (HB1.out.trans (Below.mono hb4 HB2.out))
      clear k0 k1 k2 hb4
      simp [Leaves, settle, results, Tryd.results32, go_sem, z0, z1, z2, z3, z4]
      rw [HPR.out]
      exact ⟨none, 0, rfl, Sl.nil_ _ _, HBE.out⟩
    · have hd : decide (p < l.length) = false := decide_eq_false hp
      rw [if_neg hp] at HPR
      obtain ⟨k0, k1, k2⟩ := HRS2.out
      have r0 := k0.cell (i := 0) (v := .int .i64 q.kind) rfl
      have r1 := k0.cell (i := 1) (v := .int .i64 q.n) rfl
      have r2 := k0.cell (i := 2) (v := .slice A1 q.args.length c1) rfl
      have r3 := k1.cell (i := 0) (v := .int .i64 0) rfl
      have r4 := k2.cell (i := 0) (v := .int .i64 0) rfl
      have f0 := k0.frozen 0
      have f1 := k0.frozen 1
      have f2 := k0.frozen 2
      have f3 := k1.frozen 0
      have f4 := k2.frozen 0
      clear k0 k1 k2
      go_quiet (fail)
      go_wp2
      obtain ⟨k0, k1, k2⟩ := HRS2.out
      have hdr := (Bel.rfl_ w2).drN nq
      have j0 := (((((k0.keep hdr).set_ 0 (.int .i64 q.kind)).set_ 1 (.int .i64 q.n)).set_ 2 (.slice A1 q.args.length c1)).far_ (R := w.heap.size + 1) (by omega) 0 (.int .i64 0)).far_ (R := w.heap.size + 1 + 1) (by omega) 0 (.int .i64 0)
      have j1 := (((((k1.keep hdr).far_ (R := w.heap.size) (by omega) 0 (.int .i64 q.kind)).far_ (R := w.heap.size) (by omega) 1 (.int .i64 q.n)).far_ (R := w.heap.size) (by omega) 2 (.slice A1 q.args.length c1)).set_ 0 (.int .i64 0)).far_ (R := w.heap.size + 1 + 1) (by omega) 0 (.int .i64 0)
      have j2 := (((((k2.keep hdr).far_ (R := w.heap.size) (by omega) 0 (.int .i64 q.kind)).far_ (R := w.heap.size) (by omega) 1 (.int .i64 q.n)).far_ (R := w.heap.size) (by omega) 2 (.slice A1 q.args.length c1)).far_ (R := w.heap.size + 1) (by omega) 0 (.int .i64 0)).set_ 0 (.int .i64 0)
      have hs := ((((((HS1.out.keep (low_belB hdr)).keep (low_set _ (i := 0) (.int .i64 q.kind) hwr)).keep (low_set _ (i := 1) (.int .i64 q.n) hwr)).keep (low_set _ (i := 2) (.slice A1 q.args.length c1) hwr)).keep (low_set _ (i := 0) (.int .i64 0) hw2)).keep (low_set _ (i := 0) (.int .i64 0) hw3))
      have hb := ((((((Bel.tr HB1.out hdr).setCell (p := ⟨w.heap.size, 0, none⟩) HB2.out (.int .i64 q.kind)).setCell (p := ⟨w.heap.size, 1, none⟩) HB2.out (.int .i64 q.n)).setCell (p := ⟨w.heap.size, 2, none⟩) HB2.out (.slice A1 q.args.length c1)).setCell (p := ⟨w.heap.size + 1, 0, none⟩) (Nat.le_trans HB2.out (by dsimp only; omega)) (.int .i64 0)).setCell (p := ⟨w.heap.size + 1 + 1, 0, none⟩) (Nat.le_trans HB2.out (by dsimp only; omega)) (.int .i64 0))
      have HS := Lib.hid (low_mono (B' := w.heap.size) (by omega) hs)
      have HBE := Lib.hid hb
      have z0 := j0.cell (i := 0) (v := .int .i64 q.kind) rfl
      have z1 := j0.cell (i := 1) (v := .int .i64 q.n) rfl
      have z2 := j0.cell (i := 2) (v := .slice A1 q.args.length c1) rfl
      have z3 := j1.cell (i := 0) (v := .int .i64 0) rfl
      have z4 := j2.cell (i := 0) (v := .int .i64 0) rfl
      clear hs hb j0 j1 j2 k0 k1 k2 r0 r1 r2 r3 r4 f0 f1 f2 f3 f4 y0 y1 y2 yf hdr
      refine leaves_cons (f := 45) (args := #[.pointer (some ⟨w.heap.size, 0, none⟩), .pointer (some ⟨w.heap.size + 1, 0, none⟩), .pointer (some ⟨w.heap.size + 1 + 1, 0, none⟩)]) (by simp) (by simp [go_sem]) ?_
      refine (catch_idle w.heap.size _).mono ?_
      rintro e u' w4 ⟨rfl, rfl, rfl⟩
      simp [Leaves, settle, results, Tryd.results32, go_sem, z0, z1, z2, z3, z4]
      rw [HPR.out]
      exact ⟨A1, c1, rfl, HS.out, HBE.out⟩

end Go.Proofs.YtegknpffiaeohaaDoor
