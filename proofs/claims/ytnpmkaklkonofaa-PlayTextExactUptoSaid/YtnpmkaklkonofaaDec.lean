/- text.Dec writes a number's decimal digits. -/
import Derived.Test.YtnpmkaklkonofaaDigs
import Derived.Test.YtnpmkaklkonofaaProg
import Derived.Test.YtnpmkaklkonofaaRows
import Derived.WalkKit
import Derived.WalkSpells
import Derived.WalkLawsBesides
import Derived.Laws.IdiomStrings
import Derived.Lib.Hide
namespace Go.Proofs.Ytnpmkaklkonofaa.Txt
open Go.RowKit

def byteV (c : UInt8) : Value := .int .u8 (c.toNat : Int)

/-- Behind some rounds: what stands from place a on is the end of u's digits, v's digits are what lacks. -/
structure DecAt (u : Nat) (C : Array Value) (a : Int) (v : Nat) : Prop where
  size : C.size = 20
  small : v < 10 ^ (a - 1).toNat
  rest : ∃ t : List UInt8, t.length = 20 - a.toNat ∧ C.toList.drop a.toNat = t.map byteV ∧ digs v ++ t = digs u

theorem DecAt.cell {u : Nat} {C : Array Value} {a : Int} {v : Nat} (h : DecAt u C a v) (h1 : 1 ≤ a) (h2 : a ≤ 20) : ∃ y, C[a.toNat - 1]? = some y :=
  ⟨C[a.toNat - 1]'(by have := h.size; omega), by rw [Array.getElem?_eq_getElem]⟩

theorem u64_neg {n : Int} (h1 : -9223372036854775808 ≤ n) (h2 : n < 0) : IntKind.u64.wrap (-IntKind.u64.wrap n) = (n.natAbs : Int) := by
  simp only [IntKind.wrap, IntKind.signed, IntKind.bits]
  simp
  omega
theorem u64_pos {n : Int} (h1 : 0 ≤ n) (h2 : n ≤ 9223372036854775807) : IntKind.u64.wrap n = (n.natAbs : Int) := by
  simp only [IntKind.wrap, IntKind.signed, IntKind.bits]
  simp
  omega

theorem drop_set (l : List Value) (k : Nat) (x : Value) (h : k < l.length) : (l.set k x).drop k = x :: l.drop (k + 1) := by
  rw [List.drop_eq_getElem_cons (by simpa using h), List.getElem_set_self, List.drop_set_of_lt (by omega)]

theorem DecAt.step {u : Nat} {C : Array Value} {a : Int} {v : Nat} (h : DecAt u C a v) (h1 : 1 ≤ a) (h2 : a ≤ 20) :
    (C.setIfInBounds (a.toNat - 1) (.int .u8 (48 + (v : Int) % 10))).size = 20 ∧
    (v < 10 → (C.setIfInBounds (a.toNat - 1) (.int .u8 (48 + (v : Int) % 10))).toList.drop (a.toNat - 1) = (digs u).map byteV ∧ (digs u).length = 21 - a.toNat) ∧
    (¬ v < 10 → DecAt u (C.setIfInBounds (a.toNat - 1) (.int .u8 (48 + (v : Int) % 10))) (a - 1) (v / 10) ∧ 2 ≤ a) := by
  obtain ⟨hs, hv, t, ht, hc, hd⟩ := h
  have hsz : (C.setIfInBounds (a.toNat - 1) (.int .u8 (48 + (v : Int) % 10))).size = 20 := by simpa using hs
  have hb : (Value.int .u8 (48 + (v : Int) % 10)) = byteV (UInt8.ofNat (48 + v % 10)) := by
    unfold byteV
    congr 1
    rw [UInt8.toNat_ofNat_of_lt' (by simp [UInt8.size]; omega)]
    omega
  have hdr : (C.setIfInBounds (a.toNat - 1) (.int .u8 (48 + (v : Int) % 10))).toList.drop (a.toNat - 1) = (UInt8.ofNat (48 + v % 10) :: t).map byteV := by
    rw [Array.toList_setIfInBounds, drop_set _ _ _ (by simp; omega), hb, show a.toNat - 1 + 1 = a.toNat by omega, hc]
    rfl
  refine ⟨hsz, fun hl => ?_, fun hl => ?_⟩
  · rw [digs_lt hl] at hd
    have e : UInt8.ofNat (48 + v % 10) :: t = digs u := by rw [← hd, Nat.mod_eq_of_lt hl]; rfl
    rw [hdr, e]
    exact ⟨rfl, by rw [← e, List.length_cons, ht]; omega⟩
  · rw [digs_ge (by omega)] at hd
    have ha : 2 ≤ a := by
      rcases Int.lt_or_le a 2 with h' | h'
      · rw [show (a - 1).toNat = 0 by omega] at hv; omega
      · exact h'
    refine ⟨⟨hsz, ?_, UInt8.ofNat (48 + v % 10) :: t, by rw [List.length_cons, ht]; omega, by rw [show (a - 1).toNat = a.toNat - 1 by omega]; exact hdr, by rw [← hd]; simp⟩, ha⟩
    rw [show (a - 1).toNat = (a - 1 - 1).toNat + 1 by omega, Nat.pow_succ] at hv
    omega

theorem decAt_start {n : Int} (h1 : -9223372036854775808 ≤ n) (h2 : n ≤ 9223372036854775807) (C : Array Value) (hC : C.size = 20) : DecAt n.natAbs C 20 n.natAbs :=
  ⟨hC, by show n.natAbs < 10 ^ 19; omega, [], rfl, by rw [List.drop_eq_nil_of_le (by simp [hC])]; rfl, by simp⟩

theorem conv_tail (w : World) (C : Array Value) (t : List UInt8) (k m : Nat) (hs : C.size = 20) (h : C.toList.drop k = t.map byteV) (hm : m = 20 - k) :
    (convert 56 9 (.slice (some ⟨w.heap.size, k, none⟩) m m)).run Try.prog (w.alloc (.cells C 107)) = .ok (.string ⟨t.toArray⟩) (w.alloc (.cells C 107)) := by
  have hl : t.length = m := by
    have := congrArg List.length h
    simp at this
    omega
  subst hl
  refine run_convert_bytes_back (P := Try.prog) _ _ _ 5 ⟨w.heap.size, k, none⟩ _ t Try.underlying56 Try.underlying5 Try.underlying9 (fun j hj => ?_)
  rw [show (⟨w.heap.size, k, none⟩ : Addr).add j = ⟨w.heap.size, k + j, none⟩ from by unfold Addr.add; split <;> simp_all, World.cell?_alloc_at _ _ _ _ rfl]
  have e := congrArg (fun l => l[j]?) h
  simp only [List.getElem?_drop, List.getElem?_map, List.getElem?_eq_getElem hj, Option.map_some, Array.getElem?_toList] at e
  exact e

theorem slice_tail (b : Nat) (l : Int) (h0 : 0 ≤ l) (h1 : l < 20) (W : World) :
    (Instr.sliceAt 107 (.pointer (some ⟨b, 0, none⟩)) (some (.int .i64 l)) none none).run Try.prog W = .ok (.slice (some ⟨b, l.toNat, none⟩) (20 - l.toNat) (20 - l.toNat)) W := by
  have hal : Try.prog.arrayLen 107 = 20 := by kernel_rfl
  have hel : Try.prog.elem 107 = 5 := by kernel_rfl
  have hsz : ∀ W : World, (sizeOf 5).run Try.prog W = .ok 1 W := fun W => by kernel_rfl
  rw [run_sliceAt_array_l W 107 ⟨b, 0, none⟩ (by rw [hal, hel]; exact Try.underlying107) .i64 l h0 (by rw [hal]; omega), hal, hel, hsz]
  have e : ¬ 20 = l.toNat := by omega
  simp [slicedAt, e, Addr.add]
  omega

/-- What stands behind the loop: the whole of u's digits, from place k on. -/
theorem dec_pos (u : Nat) : decB (u : Int) = ⟨(digs u).toArray⟩ := by
  unfold decB decL
  rw [if_neg (by omega)]
  simp

theorem dec_neg {n : Int} (hn : n < 0) : decB n = ⟨(45 :: digs n.natAbs).toArray⟩ := by
  unfold decB decL
  rw [if_pos hn]
  rfl

set_option maxHeartbeats 400000 in
set_option maxRecDepth 100000 in
theorem dec_calls (n : Int) (w : World) (h1 : -9223372036854775808 ≤ n) (h2 : n ≤ 9223372036854775807) :
    Calls Try.prog 33 #[.int .i64 n] w fun e w' => e = .returned (.string (decB n)) ∧ Below w.heap.size w w' := by
  go_enter Try.func33, Try.ntmps33
  by_cases hn : n < 0
  · have hu := u64_neg h1 hn
    go_wp2
    go_loopw [4, 5] (fun v4 v5 wr => ∃ (a : Int) (v : Nat) (C : Array Value), v4 = .int .i64 a ∧ v5 = .int .u64 (v : Int) ∧ 1 ≤ a ∧ a ≤ 20 ∧ v ≤ 9223372036854775808 ∧ wr = w.alloc (.cells C 107) ∧ Hid (DecAt n.natAbs C a v)) (fun v4 _ _ => (intOf v4).toNat)
    case atStart => exact ⟨20, n.natAbs, _, rfl, rfl, by omega, by omega, by omega, rfl, decAt_start h1 h2 _ rfl⟩
    case round =>
      clear hu
      obtain ⟨a, v, C, rfl, rfl, ha1, ha2, hv, rfl, HD⟩ := hrel
      obtain ⟨y, hy⟩ := HD.out.cell ha1 ha2
      obtain ⟨hs, hlo, hhi⟩ := HD.out.step ha1 ha2
      by_cases hz : v < 10
      · have hz1 : ((v : Int) / 10 == 0) = true := by simp; omega
        obtain ⟨e1, e2⟩ := hlo hz
        clear hlo hhi
        have hl19 : (digs n.natAbs).length ≤ 19 := digs_len 19 _ (by omega) (by omega)
        have ha3 : 2 ≤ a := by omega
        have hfin : ((C.setIfInBounds (a.toNat - 1) (Value.int IntKind.u8 (48 + ↑v % 10))).setIfInBounds (a.toNat - 1 - 1) (.int .u8 45)).toList.drop (a.toNat - 1 - 1) = (45 :: digs n.natAbs).map byteV := by
          rw [Array.toList_setIfInBounds, drop_set _ _ _ (by rw [Array.length_toList, hs]; omega), show a.toNat - 1 - 1 + 1 = a.toNat - 1 by omega, e1]
          rfl
        obtain ⟨y2, hy2⟩ : ∃ y2, (C.setIfInBounds (a.toNat - 1) (Value.int IntKind.u8 (48 + ↑v % 10)))[a.toNat - 1 - 1]? = some y2 := ⟨_, Array.getElem?_eq_getElem (by rw [hs]; omega)⟩
        have hsl := slice_tail w.heap.size (a - 1 - 1) (by omega) (by omega)
        rw [show (a - 1 - 1).toNat = a.toNat - 1 - 1 by omega] at hsl
        have hcv := conv_tail w _ _ _ (20 - (a.toNat - 1 - 1)) (by simpa using hs) hfin rfl
        have hdn := Lib.hid (dec_neg hn)
        clear e1 e2 hs hfin hz
        go_wp2
        go_ret
        exact ⟨by rw [hdn.out]; rfl, (Below.refl _ _).alloc (Nat.le_refl _) _⟩
      · have hz1 : ((v : Int) / 10 == 0) = false := by simp; omega
        obtain ⟨hD2, ha3⟩ := hhi hz
        have HD2 := Lib.hid hD2
        clear hlo hhi hs hD2
        go_wp2
        go_roundw
        case rel => exact ⟨a - 1, v / 10, _, rfl, by simp, by omega, by omega, by omega, rfl, HD2.out⟩
        case measure => simp [intOf]; omega
  · have hu := u64_pos (by omega) h2
    go_wp2
    go_loopw [4, 5] (fun v4 v5 wr => ∃ (a : Int) (v : Nat) (C : Array Value), v4 = .int .i64 a ∧ v5 = .int .u64 (v : Int) ∧ 1 ≤ a ∧ a ≤ 20 ∧ v ≤ 9223372036854775808 ∧ wr = w.alloc (.cells C 107) ∧ Hid (DecAt n.natAbs C a v)) (fun v4 _ _ => (intOf v4).toNat)
    case atStart => exact ⟨20, n.natAbs, _, rfl, rfl, by omega, by omega, by omega, rfl, decAt_start h1 h2 _ rfl⟩
    case round =>
      clear hu
      obtain ⟨a, v, C, rfl, rfl, ha1, ha2, hv, rfl, HD⟩ := hrel
      obtain ⟨y, hy⟩ := HD.out.cell ha1 ha2
      obtain ⟨hs, hlo, hhi⟩ := HD.out.step ha1 ha2
      by_cases hz : v < 10
      · have hz1 : ((v : Int) / 10 == 0) = true := by simp; omega
        obtain ⟨e1, e2⟩ := hlo hz
        clear hlo hhi
        have hsl := slice_tail w.heap.size (a - 1) (by omega) (by omega)
        rw [show (a - 1).toNat = a.toNat - 1 by omega] at hsl
        have hcv := conv_tail w _ _ _ (20 - (a.toNat - 1)) hs e1 rfl
        have hdn := Lib.hid (dec_pos n.natAbs)
        clear e1 e2 hs hz
        go_wp2
        go_ret
        exact ⟨by rw [← hdn.out, show (n.natAbs : Int) = n by omega]; rfl, (Below.refl _ _).alloc (Nat.le_refl _) _⟩
      · have hz1 : ((v : Int) / 10 == 0) = false := by simp; omega
        obtain ⟨hD2, ha3⟩ := hhi hz
        have HD2 := Lib.hid hD2
        clear hlo hhi hs hD2
        go_wp2
        go_roundw
        case rel => exact ⟨a - 1, v / 10, _, rfl, by simp, by omega, by omega, by omega, rfl, HD2.out⟩
        case measure => simp [intOf]; omega

end Go.Proofs.Ytnpmkaklkonofaa.Txt
