/- The maker of a sector: walked. Each lemma states its own conditions. -/
import Derived.Test.YtkojeofegoljpaaLogA
namespace Go.Proofs.Ytkojeofegoljpaa
open Go.RowKit

/-- a maker that lies at a block of the call's own -/
def Mk (w : World) (g : Nat) (xs : List Int) : Prop := ∃ v, Blk w g 121 #[v] ∧ w.ownsRow (g + 1) 5 1 v xs.length (xs.map (Value.int .u8))
theorem Mk.put {w : World} {g : Nat} {v v' : Value} {xs : List Int} (hB : Blk w g 121 #[v]) (hO : w.ownsRow (g + 1) 5 1 v' xs.length (xs.map (Value.int .u8))) : Mk (w.setCell ⟨g, 0, none⟩ v') g xs := by
  refine ⟨v', hB.set_ 0 v', hO.kept (grown_cell w g 0 v') ?_⟩
  cases h : v'.ownBlock with
  | none => exact .inl rfl
  | some k =>
    have := (hO.lt k h).1
    exact .inr (fun e => by have : k = g := by simpa using e
                            omega)
/-- numbers of a row whose extent is known -/
def ints (l : List Int) : Array Value := (l.map (Value.int .i64)).toArray
theorem ints_get {l : List Int} {k : Nat} {x : Int} (h : l[k]? = some x) : (ints l)[k]? = some (.int .i64 x) := by simp [ints, h]
theorem words_take {l : List Int} {k : Nat} {x : Int} (h : l[k]? = some x) : words (l.take (k + 1)) = words (l.take k) ++ word x := by
  rw [List.take_add_one, h, words_app]
  simp [words]

theorem row_cells (w : World) (t : TypeId) (cs : List Value) : CellsAt (w.alloc (.cells cs.toArray t)) w.heap.size 0 cs := fun j u hu => by
  rw [Nat.zero_add]
  exact (Blk.new w t cs.toArray).cell (by simpa using hu)
theorem word_cells (x : Int) : [Value.int .u8 (x % 256), .int .u8 (x % 4294967296 / 256 % 256), .int .u8 (x % 4294967296 / 65536 % 256), .int .u8 (x % 4294967296 / 16777216)] = (word x).map (Value.int .u8) := by
  unfold word
  simp only [List.map_cons, List.map_nil]
  rw [show x % 4294967296 % 256 = x % 256 by omega, show x % 4294967296 / 16777216 % 256 = x % 4294967296 / 16777216 by omega]

set_option maxRecDepth 20000 in
set_option maxHeartbeats 1000000 in
theorem mput_any (g b : Nat) (xs l : List Int) (hx : xs.length + 4 * l.length ≤ 1000000) (w : World) (h : Mk w g xs) (hl : Blk w b 3 (ints l)) (hbg : b ≠ g) :
    Calls Try.prog 75 #[.pointer (some ⟨g, 0, none⟩), .slice (some ⟨b, 0, none⟩) l.length l.length] w fun r w' => (∃ v, r = .returned v) ∧ Mk w' g (xs ++ words l) ∧ Below g w w' := by
  have hll : l.length ≤ 1000000 := by omega
  have HX := Lib.hid hx
  have HG := Lib.hid hbg
  clear hx hbg
  go_enter Try.func75, Try.ntmps75
  go_wp2
  go_loopw [9] (fun t wr => ∃ k : Nat, k ≤ l.length ∧ t = .int .i64 k ∧ Hid (Mk wr g (xs ++ words (l.take k))) ∧ Hid (Blk wr b 3 (ints l)) ∧ Hid (Below g w wr)) (fun t _ => l.length - (intOf t).toNat)
  case atStart => exact ⟨0, by omega, rfl, Lib.hid (by simpa [words] using h), Lib.hid hl, Lib.hid (Below.refl _ _)⟩
  case round =>
    obtain ⟨k, hk, rfl, HM, HL, HB⟩ := hrel
    by_cases hlt : k < l.length
    · obtain ⟨x, hx⟩ : ∃ x, l[k]? = some x := ⟨_, List.getElem?_eq_getElem hlt⟩
      have c0 := HL.out.cell (ints_get hx)
      have HW := Lib.hid (words_take hx)
      obtain ⟨u, hB, hO⟩ := HM.out
      have x0 : wr.cell? ⟨g, 0, none⟩ = some u := hB.cell rfl
      have y0 := hB.frozen 0
      have z0 := hB.lt
      have HN := Lib.hid (hB.ne_own hO (by decide))
      have HLN := Lib.hid (HL.out.ne_own hO (by decide))
      have hpl : (xs ++ words (l.take k)).length ≤ 1000000 := by
        have := HX.out
        rw [List.length_append, words_len, List.length_take]
        omega
      generalize hpre : xs ++ words (l.take k) = pre at *
      have HP := Lib.hid hpre
      clear hpre
      have HBk := Lib.hid hB
      have HO := Lib.hid hO
      clear hB hO h hl hx HM
      have HWC := Lib.hid (word_cells x)
      go_wp2_with (at_builtin; refine wpl_appAll (wr.alloc (.cells #[.int .u8 (x % 256), .int .u8 (x % 4294967296 / 256 % 256), .int .u8 (x % 4294967296 / 65536 % 256), .int .u8 (x % 4294967296 / 16777216)] 5)) rfl (.tmp 19) (.tmp 31) 74 rfl (g + 1) elU8 u pre.length _ rfl (HO.out.alloc _) (some ⟨wr.heap.size, 0, none⟩) 4 4 [.int .u8 (x % 256), .int .u8 (x % 4294967296 / 256 % 256), .int .u8 (x % 4294967296 / 65536 % 256), .int .u8 (x % 4294967296 / 16777216)] rfl rfl (fun h => by cases h) (fun _ => ⟨_, 0, rfl, row_cells wr 5 _⟩) (by simp [Value.oneCell']) (by simp only [maxLen]; omega) (by omega) (by simp; omega) ?_; intro v2 w2 hown2 hg2 _; obtain ⟨g2, cap, rfl⟩ := ownsRow_some hown2 (by omega); have hB2 := (HBk.out.keep ((Bel.rfl_ wr).al _)).grown hg2 HN.out; have x2 : w2.cell? ⟨g, 0, none⟩ = some u := hB2.cell rfl; have y2 := hB2.frozen 0; have HB2 := Lib.hid hB2; have HO2 := Lib.hid hown2; have HG2 := Lib.hid hg2; clear hB2 hown2 hg2)
      have hb2 := Below.grown (Below.alloc HB.out (by omega) _) HG2.out (by simp; omega) (fun k hk => by have := (HO.out.lt k hk).1; omega)
      go_roundw
      case rel =>
        refine ⟨k + 1, by omega, by go_num, ?_, Lib.hid (((HL.out.keep ((Bel.rfl_ wr).al _)).grown HG2.out HLN.out).far2 HG.out _ _), Lib.hid (hb2.setCell (Nat.le_refl _) _)⟩
        refine Lib.hid ?_
        rw [HW.out, ← List.append_assoc, HP.out]
        refine Mk.put HB2.out ?_
        have h1 := HO2.out
        rw [HWC.out, ← List.map_append] at h1
        rw [List.length_append]
        exact h1
      case measure => simp [intOf]; omega
    · obtain rfl : k = l.length := by omega
      rw [List.take_length] at HM
      go_wp2
      exact bodyPost_end (v := .tuple #[]) (results_none rfl _ _ _) rfl ⟨⟨_, rfl⟩, HM.out, HB.out⟩

end Go.Proofs.Ytkojeofegoljpaa
