/- Plain: the decimal digits of a number, as the program and the document write them. -/
import Derived.RowKit
import Derived.Test.YtnpmkaklkonofaaProg
import Derived.Test.YtnpmkaklkonofaaRows
import Derived.WalkKit
import Derived.WalkSpells
import Derived.WalkLawsBesides
import Derived.Laws.IdiomStrings
import Derived.Lib.Hide
import Derived.Test.YtnpmkaklkonofaaWWords
import Derived.Test.YtnpmkaklkonofaaWLast
import Derived.Laws.Tables
import Derived.Laws.CopyOwn
set_option linter.unusedVariables false
set_option linter.unusedSimpArgs false
namespace Go.Proofs.Ytnpmkaklkonofaa.Txt

/-- The decimal digits of a natural number. -/
def digs (v : Nat) : List UInt8 := if h : v < 10 then [UInt8.ofNat (48 + v)] else digs (v / 10) ++ [UInt8.ofNat (48 + v % 10)]
termination_by v
decreasing_by omega

theorem digs_lt {v : Nat} (h : v < 10) : digs v = [UInt8.ofNat (48 + v)] := by rw [digs]; simp [h]
theorem digs_ge {v : Nat} (h : 10 ≤ v) : digs v = digs (v / 10) ++ [UInt8.ofNat (48 + v % 10)] := by
  rw [digs]; simp [show ¬ v < 10 by omega]

theorem digs_pos (v : Nat) : 0 < (digs v).length := by
  rw [digs]; split <;> simp

theorem digs_len (k : Nat) : ∀ v : Nat, v < 10 ^ k → 0 < k → (digs v).length ≤ k := by
  induction k with
  | zero => intro v _ h; omega
  | succ k ih =>
    intro v hv _
    by_cases h : v < 10
    · rw [digs_lt h]; simp
    · rw [digs_ge (by omega)]
      have hk : 0 < k := by
        rcases Nat.eq_zero_or_pos k with rfl | h'
        · simp at hv; omega
        · exact h'
      have := ih (v / 10) (by rw [Nat.pow_succ] at hv; omega) hk
      simp; omega

/-- A number's text: a minus sign where it is below nought, then the digits. -/
def decL (n : Int) : List UInt8 := (if n < 0 then [45] else []) ++ digs n.natAbs
def decB (n : Int) : ByteArray := ⟨(decL n).toArray⟩

theorem decL_len (n : Int) (h1 : -9223372036854775808 ≤ n) (h2 : n ≤ 9223372036854775807) : (decL n).length ≤ 20 := by
  have := digs_len 19 n.natAbs (by omega) (by omega)
  unfold decL
  split <;> simp <;> omega

end Go.Proofs.Ytnpmkaklkonofaa.Txt


/- text.Dec writes a number's decimal digits. -/
namespace Go.Proofs.Ytnpmkaklkonofaa.Txt
open Go.RowKit

def byteV (c : UInt8) : Value := .int .u8 (c.toNat : Int)

/-- Behind some rounds: what stands from place a on is the end of u's digits, v's digits are what lacks. -/
structure DecAt (u : Nat) (C : Array Value) (a : Int) (v : Nat) : Prop where
  size : C.size = 20
  small : v < 10 ^ (a - 1).toNat
  rest : ∃ t : List UInt8, t.length = 20 - a.toNat ∧ C.toList.drop a.toNat = t.map byteV ∧ digs v ++ t = digs u

theorem DecAt.cell {u : Nat} {C : Array Value} {a : Int} {v : Nat} (h : DecAt u C a v) (h1 : 1 ≤ a) (h2 : a ≤ 20) : ∃ y, C[a.toNat - 1]? = some y :=
  ⟨C[a.toNat - 1]'(by have := h.size; omega), by rw [Array.getElem?_eq_getElem]⟩

theorem u64_neg {n : Int} (h1 : -9223372036854775808 ≤ n) (h2 : n < 0) : IntKind.u64.wrap (-IntKind.u64.wrap n) = (n.natAbs : Int) := by
  simp only [IntKind.wrap, IntKind.signed, IntKind.bits]
  simp
  omega
theorem u64_pos {n : Int} (h1 : 0 ≤ n) (h2 : n ≤ 9223372036854775807) : IntKind.u64.wrap n = (n.natAbs : Int) := by
  simp only [IntKind.wrap, IntKind.signed, IntKind.bits]
  simp
  omega

theorem drop_set (l : List Value) (k : Nat) (x : Value) (h : k < l.length) : (l.set k x).drop k = x :: l.drop (k + 1) := by
  rw [List.drop_eq_getElem_cons (by simpa using h), List.getElem_set_self, List.drop_set_of_lt (by omega)]

theorem DecAt.step {u : Nat} {C : Array Value} {a : Int} {v : Nat} (h : DecAt u C a v) (h1 : 1 ≤ a) (h2 : a ≤ 20) :
    (C.setIfInBounds (a.toNat - 1) (.int .u8 (48 + (v : Int) % 10))).size = 20 ∧
    (v < 10 → (C.setIfInBounds (a.toNat - 1) (.int .u8 (48 + (v : Int) % 10))).toList.drop (a.toNat - 1) = (digs u).map byteV ∧ (digs u).length = 21 - a.toNat) ∧
    (¬ v < 10 → DecAt u (C.setIfInBounds (a.toNat - 1) (.int .u8 (48 + (v : Int) % 10))) (a - 1) (v / 10) ∧ 2 ≤ a) := by
  obtain ⟨hs, hv, t, ht, hc, hd⟩ := h
  have hsz : (C.setIfInBounds (a.toNat - 1) (.int .u8 (48 + (v : Int) % 10))).size = 20 := by simpa using hs
  have hb : (Value.int .u8 (48 + (v : Int) % 10)) = byteV (UInt8.ofNat (48 + v % 10)) := by
    unfold byteV
    congr 1
    rw [UInt8.toNat_ofNat_of_lt' (by simp [UInt8.size]; omega)]
    omega
  have hdr : (C.setIfInBounds (a.toNat - 1) (.int .u8 (48 + (v : Int) % 10))).toList.drop (a.toNat - 1) = (UInt8.ofNat (48 + v % 10) :: t).map byteV := by
    rw [Array.toList_setIfInBounds, drop_set _ _ _ (by simp; omega), hb, show a.toNat - 1 + 1 = a.toNat by omega, hc]
    rfl
  refine ⟨hsz, fun hl => ?_, fun hl => ?_⟩
  · rw [digs_lt hl] at hd
    have e : UInt8.ofNat (48 + v % 10) :: t = digs u := by rw [← hd, Nat.mod_eq_of_lt hl]; rfl
    rw [hdr, e]
    exact ⟨rfl, by rw [← e, List.length_cons, ht]; omega⟩
  · rw [digs_ge (by omega)] at hd
    have ha : 2 ≤ a := by
      rcases Int.lt_or_le a 2 with h' | h'
      · rw [show (a - 1).toNat = 0 by omega] at hv; omega
      · exact h'
    refine ⟨⟨hsz, ?_, UInt8.ofNat (48 + v % 10) :: t, by rw [List.length_cons, ht]; omega, by rw [show (a - 1).toNat = a.toNat - 1 by omega]; exact hdr, by rw [← hd]; simp⟩, ha⟩
    rw [show (a - 1).toNat = (a - 1 - 1).toNat + 1 by omega, Nat.pow_succ] at hv
    omega

theorem decAt_start {n : Int} (h1 : -9223372036854775808 ≤ n) (h2 : n ≤ 9223372036854775807) (C : Array Value) (hC : C.size = 20) : DecAt n.natAbs C 20 n.natAbs :=
  ⟨hC, by show n.natAbs < 10 ^ 19; omega, [], rfl, by rw [List.drop_eq_nil_of_le (by simp [hC])]; rfl, by simp⟩

theorem conv_tail (w : World) (C : Array Value) (t : List UInt8) (k m : Nat) (hs : C.size = 20) (h : C.toList.drop k = t.map byteV) (hm : m = 20 - k) :
    (convert 56 9 (.slice (some ⟨w.heap.size, k, none⟩) m m)).run Try.prog (w.alloc (.cells C 107)) = .ok (.string ⟨t.toArray⟩) (w.alloc (.cells C 107)) := by
  have hl : t.length = m := by
    have := congrArg List.length h
    simp at this
    omega
  subst hl
  refine run_convert_bytes_back (P := Try.prog) _ _ _ 5 ⟨w.heap.size, k, none⟩ _ t Try.underlying56 Try.underlying5 Try.underlying9 (fun j hj => ?_)
  rw [show (⟨w.heap.size, k, none⟩ : Addr).add j = ⟨w.heap.size, k + j, none⟩ from by unfold Addr.add; split <;> simp_all, World.cell?_alloc_at _ _ _ _ rfl]
  have e := congrArg (fun l => l[j]?) h
  simp only [List.getElem?_drop, List.getElem?_map, List.getElem?_eq_getElem hj, Option.map_some, Array.getElem?_toList] at e
  exact e

theorem slice_tail (b : Nat) (l : Int) (h0 : 0 ≤ l) (h1 : l < 20) (W : World) :
    (Instr.sliceAt 107 (.pointer (some ⟨b, 0, none⟩)) (some (.int .i64 l)) none none).run Try.prog W = .ok (.slice (some ⟨b, l.toNat, none⟩) (20 - l.toNat) (20 - l.toNat)) W := by
  have hal : Try.prog.arrayLen 107 = 20 := by kernel_rfl
  have hel : Try.prog.elem 107 = 5 := by kernel_rfl
  have hsz : ∀ W : World, (sizeOf 5).run Try.prog W = .ok 1 W := fun W => by kernel_rfl
  rw [run_sliceAt_array_l W 107 ⟨b, 0, none⟩ (by rw [hal, hel]; exact Try.underlying107) .i64 l h0 (by rw [hal]; omega), hal, hel, hsz]
  have e : ¬ 20 = l.toNat := by omega
  simp [slicedAt, e, Addr.add]
  omega

/-- What stands behind the loop: the whole of u's digits, from place k on. -/
theorem dec_pos (u : Nat) : decB (u : Int) = ⟨(digs u).toArray⟩ := by
  unfold decB decL
  rw [if_neg (by omega)]
  simp

theorem dec_neg {n : Int} (hn : n < 0) : decB n = ⟨(45 :: digs n.natAbs).toArray⟩ := by
  unfold decB decL
  rw [if_pos hn]
  rfl

set_option maxHeartbeats 400000 in
set_option maxRecDepth 100000 in
theorem dec_calls (n : Int) (w : World) (h1 : -9223372036854775808 ≤ n) (h2 : n ≤ 9223372036854775807) :
    Calls Try.prog 33 #[.int .i64 n] w fun e w' => e = .returned (.string (decB n)) ∧ Below w.heap.size w w' := by
  go_enter Try.func33, Try.ntmps33
  by_cases hn : n < 0
  · have hu := u64_neg h1 hn
    go_wp2
    go_loopw [4, 5] (fun v4 v5 wr => ∃ (a : Int) (v : Nat) (C : Array Value), v4 = .int .i64 a ∧ v5 = .int .u64 (v : Int) ∧ 1 ≤ a ∧ a ≤ 20 ∧ v ≤ 9223372036854775808 ∧ wr = w.alloc (.cells C 107) ∧ Hid (DecAt n.natAbs C a v)) (fun v4 _ _ => (intOf v4).toNat)
    case atStart => exact ⟨20, n.natAbs, _, rfl, rfl, by omega, by omega, by omega, rfl, decAt_start h1 h2 _ rfl⟩
    case round =>
      clear hu
      obtain ⟨a, v, C, rfl, rfl, ha1, ha2, hv, rfl, HD⟩ := hrel
      obtain ⟨y, hy⟩ := HD.out.cell ha1 ha2
      obtain ⟨hs, hlo, hhi⟩ := HD.out.step ha1 ha2
      by_cases hz : v < 10
      · have hz1 : ((v : Int) / 10 == 0) = true := by simp; omega
        obtain ⟨e1, e2⟩ := hlo hz
        clear hlo hhi
        have hl19 : (digs n.natAbs).length ≤ 19 := digs_len 19 _ (by omega) (by omega)
        have ha3 : 2 ≤ a := by omega
        have hfin : ((C.setIfInBounds (a.toNat - 1) (Value.int IntKind.u8 (48 + ↑v % 10))).setIfInBounds (a.toNat - 1 - 1) (.int .u8 45)).toList.drop (a.toNat - 1 - 1) = (45 :: digs n.natAbs).map byteV := by
          rw [Array.toList_setIfInBounds, drop_set _ _ _ (by rw [Array.length_toList, hs]; omega), show a.toNat - 1 - 1 + 1 = a.toNat - 1 by omega, e1]
          rfl
        obtain ⟨y2, hy2⟩ : ∃ y2, (C.setIfInBounds (a.toNat - 1) (Value.int IntKind.u8 (48 + ↑v % 10)))[a.toNat - 1 - 1]? = some y2 := ⟨_, Array.getElem?_eq_getElem (by rw [hs]; omega)⟩
        have hsl := slice_tail w.heap.size (a - 1 - 1) (by omega) (by omega)
        rw [show (a - 1 - 1).toNat = a.toNat - 1 - 1 by omega] at hsl
        have hcv := conv_tail w _ _ _ (20 - (a.toNat - 1 - 1)) (by simpa using hs) hfin rfl
        have hdn := Lib.hid (dec_neg hn)
        clear e1 e2 hs hfin hz
        go_wp2
        go_ret
        exact ⟨by rw [hdn.out]; rfl, (Below.refl _ _).alloc (Nat.le_refl _) _⟩
      · have hz1 : ((v : Int) / 10 == 0) = false := by simp; omega
        obtain ⟨hD2, ha3⟩ := hhi hz
        have HD2 := Lib.hid hD2
        clear hlo hhi hs hD2
        go_wp2
        go_roundw
        case rel => exact ⟨a - 1, v / 10, _, rfl, by simp, by omega, by omega, by omega, rfl, HD2.out⟩
        case measure => simp [intOf]; omega
  · have hu := u64_pos (by omega) h2
    go_wp2
    go_loopw [4, 5] (fun v4 v5 wr => ∃ (a : Int) (v : Nat) (C : Array Value), v4 = .int .i64 a ∧ v5 = .int .u64 (v : Int) ∧ 1 ≤ a ∧ a ≤ 20 ∧ v ≤ 9223372036854775808 ∧ wr = w.alloc (.cells C 107) ∧ Hid (DecAt n.natAbs C a v)) (fun v4 _ _ => (intOf v4).toNat)
    case atStart => exact ⟨20, n.natAbs, _, rfl, rfl, by omega, by omega, by omega, rfl, decAt_start h1 h2 _ rfl⟩
    case round =>
      clear hu
      obtain ⟨a, v, C, rfl, rfl, ha1, ha2, hv, rfl, HD⟩ := hrel
      obtain ⟨y, hy⟩ := HD.out.cell ha1 ha2
      obtain ⟨hs, hlo, hhi⟩ := HD.out.step ha1 ha2
      by_cases hz : v < 10
      · have hz1 : ((v : Int) / 10 == 0) = true := by simp; omega
        obtain ⟨e1, e2⟩ := hlo hz
        clear hlo hhi
        have hsl := slice_tail w.heap.size (a - 1) (by omega) (by omega)
        rw [show (a - 1).toNat = a.toNat - 1 by omega] at hsl
        have hcv := conv_tail w _ _ _ (20 - (a.toNat - 1)) hs e1 rfl
        have hdn := Lib.hid (dec_pos n.natAbs)
        clear e1 e2 hs hz
        go_wp2
        go_ret
        exact ⟨by rw [← hdn.out, show (n.natAbs : Int) = n by omega]; rfl, (Below.refl _ _).alloc (Nat.le_refl _) _⟩
      · have hz1 : ((v : Int) / 10 == 0) = false := by simp; omega
        obtain ⟨hD2, ha3⟩ := hhi hz
        have HD2 := Lib.hid hD2
        clear hlo hhi hs hD2
        go_wp2
        go_roundw
        case rel => exact ⟨a - 1, v / 10, _, rfl, by simp, by omega, by omega, by omega, rfl, HD2.out⟩
        case measure => simp [intOf]; omega

end Go.Proofs.Ytnpmkaklkonofaa.Txt


/- Plain: what Escape writes. -/
namespace Go.Proofs.Ytnpmkaklkonofaa.Txt

/-- A hexadecimal digit, the letters great. -/
def hexU (n : Nat) : UInt8 := if n < 10 then UInt8.ofNat (48 + n) else UInt8.ofNat (55 + n)
/-- A byte as it stands in a word. -/
def escC (c : UInt8) : List UInt8 := if 32 < c.toNat ∧ c.toNat < 127 ∧ c.toNat ≠ 37 then [c] else [37, hexU (c.toNat / 16), hexU (c.toNat % 16)]
def escL (l : List UInt8) : List UInt8 := if l = [] then [37] else l.flatMap escC
def escB (s : ByteArray) : ByteArray := ⟨(escL s.data.toList).toArray⟩

theorem escC_len (c : UInt8) : (escC c).length ≤ 3 := by unfold escC; split <;> simp
theorem flat_len (l : List UInt8) : (l.flatMap escC).length ≤ 3 * l.length := by
  induction l with
  | nil => simp
  | cons c l ih => have := escC_len c; rw [List.flatMap_cons, List.length_append, List.length_cons]; omega
theorem escL_len (l : List UInt8) : (escL l).length ≤ 3 * l.length + 1 := by
  unfold escL
  split
  · simp
  · have := flat_len l; omega

end Go.Proofs.Ytnpmkaklkonofaa.Txt


/- text.each: a function called at each byte of a string, as long as it says yes. -/
namespace Go.Proofs.Ytnpmkaklkonofaa.Txt
open Go.RowKit Go.Proofs.YtnpmkaklkonofaaW.PrintWords Go.Proofs.YtnpmkaklkonofaaW.PrintLast

set_option maxHeartbeats 400000 in
set_option maxRecDepth 100000 in
/-- I: what holds ahead of byte i; J: what holds behind a no. -/
theorem each_calls (s : ByteArray) (F : Nat) (cv : Value) (hF : ∀ args (W : World), (callFunc F args).run Try.prog W = .ok (.enter F args) W) (I : Nat → World → Prop) (J : World → Prop) (w : World) (hs : s.size ≤ 140737488351232) (h0 : I 0 w)
    (hc : ∀ i (hi : i < s.size) (W : World), I i W → Calls Try.prog F #[.int .u8 (s[i].toNat : Int), cv] W fun e W' => (e = .returned (.bool true) ∧ I (i + 1) W') ∨ (e = .returned (.bool false) ∧ J W')) :
    Calls Try.prog 77 #[.string s, .func (.func F) #[] #[cv]] w fun e w' => (e = .returned (.bool true) ∧ I s.size w') ∨ (e = .returned (.bool false) ∧ J w') := by
  have HC := Lib.hid hc
  have H0 := Lib.hid h0
  clear hc h0
  go_enter Try.func77, Try.ntmps77
  go_wp2
  go_loopw [4, 5] (fun v4 v5 wr => ∃ k : Nat, v5 = .int .i64 k ∧ v4 = .bool false ∧ k ≤ s.size ∧ Hid (I k wr)) (fun _ v5 _ => s.size - (intOf v5).toNat)
  case atStart => exact ⟨0, rfl, rfl, by omega, H0⟩
  case round =>
    obtain ⟨k, rfl, rfl, hk, HI⟩ := hrel
    by_cases hlt : k < s.size
    · go_wp2_with fail
      refine (HC.out k hlt _ HI.out).mono ?_
      rintro e w' (⟨rfl, h1⟩ | ⟨rfl, h1⟩)
      · have H1 := Lib.hid h1
        clear h1
        go_wp2
        go_roundw
        case rel => exact ⟨k + 1, by go_num, rfl, by omega, H1⟩
        case measure => simp [intOf]; omega
      · have H1 := Lib.hid h1
        clear h1
        go_wp2
        go_ret
        exact .inr ⟨rfl, H1.out⟩
    · go_wp2
      go_ret
      obtain rfl : k = s.size := by omega
      exact .inl ⟨rfl, HI.out⟩

end Go.Proofs.Ytnpmkaklkonofaa.Txt


/- text.Escape writes any bytes as one word. -/
namespace Go.Proofs.Ytnpmkaklkonofaa.Txt
open Go.RowKit Go.Proofs.YtnpmkaklkonofaaW.PrintWords Go.Proofs.YtnpmkaklkonofaaW.PrintLast

theorem info5 : (Try.prog.info? 5).map (fun i => (i.zero, i.size, i.bytes)) = some (some (.int .u8 0), 1, 1) := by kernel_rfl

/-- Block a holds a slice of the call's own (blocks from a + 1 on), of these bytes. -/
structure Holds (a : Nat) (xs : List Int) (v : Value) (W : World) : Prop where
  cell : W.heap[a]? = some (.cells #[v] 56 (0, 0))
  own : W.ownsRow (a + 1) 5 1 v xs.length (nums .u8 xs)

def bytesI (l : List UInt8) : List Int := l.map fun c => (c.toNat : Int)
theorem bytesI_length (l : List UInt8) : (bytesI l).length = l.length := by simp [bytesI]
theorem bytesI_append (l m : List UInt8) : bytesI (l ++ m) = bytesI l ++ bytesI m := by simp [bytesI]

theorem Holds.stored {a : Nat} {xs ys : List Int} {v v1 : Value} {W w1 : World} (h : Holds a xs v W) (ho : w1.ownsRow (a + 1) 5 1 v1 ys.length (nums .u8 ys)) (hg : W.grownBy w1 v.ownBlock) :
    w1.cell? ⟨a, 0, none⟩ = some v ∧ w1.frozen? ⟨a, 0, none⟩ = false ∧ Holds a ys v1 (w1.setCell ⟨a, 0, none⟩ v1) ∧ Below a W (w1.setCell ⟨a, 0, none⟩ v1) := by
  have ha : a < W.heap.size := lt_of_block h.cell
  have hne : some a ≠ v.ownBlock := fun e => by have := own_base h.own a e.symm; omega
  have hc : w1.heap[a]? = some (.cells #[v] 56 (0, 0)) := (hg.block a ha hne).trans h.cell
  refine ⟨cell_of_one hc, free_of_one hc, ⟨one_setCell hc, ownsRow_setCell_other ho (fun e => ?_) _⟩, ?_⟩
  · have := own_base ho a e; omega
  · exact ((Below.refl a W).grown hg (by omega) (fun k hk => by have := own_base h.own k hk; omega)).setCell (Nat.le_refl _) _

/-- append(v, x, y, ..) as one step of a region that draws its order: the new cells are block g's. -/
theorem step_append_news {P : Program} {ops : Array Oper} {o : Oper} {a : Act} {Q : Exit → Act → World → Prop} {K : Act → World → Prop} (W : World) (base : Nat) (hw : Region.wanted o (yielded ops a.tmps) = true) (s x : Operand) (t e : TypeId) (k : IntKind) (bytes : Nat)
    (ho : o.op = .call { callee := .builtin .append, args := #[s, x], argTypes := #[t, t] })
    (ht : P.underlying t = some (.slice e)) (hinfo : (P.info? e).map (fun i => (i.zero, i.size, i.bytes)) = some (some (.int k 0), 1, bytes)) (hb0 : 0 < bytes)
    (v : Value) (xs ys : List Int) (g : Nat) (c : Nat) (fr : Nat × Nat) (hs : a.eval s = v) (hx : a.eval x = .slice (some ⟨g, 0, none⟩) ys.length c)
    (hg : W.heap[g]? = some (.cells (nums k ys).toArray e fr))
    (HO : W.ownsRow base e 1 v xs.length (nums k xs)) (hbase : base ≤ W.heap.size) (hl : (xs.length + ys.length) * bytes ≤ 140737488355328)
    (h : ∀ v1 w1, w1.ownsRow base e 1 v1 (xs ++ ys).length (nums k (xs ++ ys)) → W.grownBy w1 v.ownBlock → K (a.put o.dst v1) w1) :
    if Region.wanted o (yielded ops a.tmps) = true then Oper.wp P o a W K Q else K (a.put o.dst undef) W := by
  obtain ⟨i0, hi, hzz⟩ := Option.map_eq_some_iff.1 hinfo
  simp only [Prod.mk.injEq] at hzz
  obtain ⟨hz0, hz1, hz2⟩ := hzz
  have hlen : xs.length + ys.length ≤ 140737488355328 := Nat.le_trans (Nat.le_mul_of_pos_right _ hb0) hl
  rw [if_pos hw]
  obtain ⟨v1, w1, hr, hown, hg, _, hat⟩ := run_append_own_at (P := P) W base t o.type e i0 (.int k 0) 1 bytes ht hi hz0 hz1 hz2 rfl (by omega) v xs.length (nums k xs) HO ⟨g, 0, none⟩ ys.length c (nums k ys) (by rw [nums_length]; simp)
    (by simpa using World.news_of_block (cs := (nums k ys).toArray) (t := e) (fr := fr) hg) (fun u hu => by simp only [nums, List.mem_map] at hu; obtain ⟨_, _, rfl⟩ := hu; rfl) (by simp only [maxLen]; omega) hl hbase
  unfold Oper.wp execOp
  simp only [ho, resolve, invoke, builtin, Sem.run_bind, Sem.run_pure, Result.andThen_ok, List.map_toArray, List.map_cons, List.map_nil, hs, hx, hr]
  exact h v1 w1 (by rw [List.length_append, nums_append]; exact hown) hg

set_option maxRecDepth 100000 in
theorem hex_at (x : Int) (n : Nat) (e : x = n) (h : n < 16) : ∀ hh : x.toNat < (⟨#[48, 49, 50, 51, 52, 53, 54, 55, 56, 57, 65, 66, 67, 68, 69, 70]⟩ : ByteArray).size, ((⟨#[48, 49, 50, 51, 52, 53, 54, 55, 56, 57, 65, 66, 67, 68, 69, 70]⟩ : ByteArray)[x.toNat]'hh).toNat = (hexU n).toNat := by
  have key : ∀ m : Fin 16, ∀ hh : m.val < (⟨#[48, 49, 50, 51, 52, 53, 54, 55, 56, 57, 65, 66, 67, 68, 69, 70]⟩ : ByteArray).size, (⟨#[48, 49, 50, 51, 52, 53, 54, 55, 56, 57, 65, 66, 67, 68, 69, 70]⟩ : ByteArray)[m.val]'hh = hexU m.val := by decide
  intro hh
  subst e
  have := key ⟨n, h⟩ hh
  simpa using congrArg UInt8.toNat this

set_option maxHeartbeats 400000 in
set_option maxRecDepth 100000 in
theorem esc1_calls (c : UInt8) (a : Nat) (l : List UInt8) (v : Value) (W : World) (h : Holds a (bytesI l) v W) (hl : l.length ≤ 105553116266496) :
    Calls Try.prog 78 #[.int .u8 (c.toNat : Int), .pointer (some ⟨a, 0, none⟩)] W fun e W' => e = .returned (.bool true) ∧ ∃ v', Holds a (bytesI (l ++ escC c)) v' W' ∧ Below a W W' := by
  have hc : c.toNat < 256 := c.toNat_lt
  have ha : a < W.heap.size := lt_of_block h.cell
  have hv : W.cell? ⟨a, 0, none⟩ = some v := cell_of_one h.cell
  have hf : W.frozen? ⟨a, 0, none⟩ = false := free_of_one h.cell
  have HH := Lib.hid h
  have hlen : (bytesI l).length ≤ 105553116266496 := by rw [bytesI_length]; exact hl
  by_cases hin : 32 < c.toNat ∧ c.toNat < 127 ∧ c.toNat ≠ 37
  · have b1 : decide ((c.toNat : Int) > 32) = true := decide_eq_true (by omega)
    have b2 : decide ((c.toNat : Int) < 127) = true := decide_eq_true (by omega)
    have b3 : ((c.toNat : Int) != 37) = true := by simp; omega
    have hesc := Lib.hid (show escC c = [c] from by unfold escC; rw [if_pos hin])
    clear h
    go_enter Try.func78, Try.ntmps78
    go_wp2_with (at_builtin; refine print_append_num (w0 := W) (a + 1) rfl _ _ 56 5 .u8 1 rfl Try.underlying56 info5 (by omega) v (bytesI l) (c.toNat : Int) rfl rfl HH.out.own (Below.refl _ _) (by omega) (by omega) ?_; intro v1 w1 ho hb hg hat; obtain ⟨hc1, hf1, hs⟩ := HH.out.stored ho hg; obtain ⟨n1, A1, c1, e1⟩ : ∃ n A c, v1 = .slice A n c := ⟨_, own_slice ho⟩; subst e1; have HS := Lib.hid hs; clear ho hb hg hat hs)
    go_ret
    exact ⟨rfl, _, by rw [hesc.out, bytesI_append]; exact HS.out.1, HS.out.2⟩
  · have hesc := Lib.hid (show escC c = [37, hexU (c.toNat / 16), hexU (c.toNat % 16)] from by unfold escC; rw [if_neg hin])
    have hand : bits .and .u8 (c.toNat : Int) 15 = (c.toNat : Int) % 16 := u8_and15 _ (by omega) (by omega)
    have i1 : (0 ≤ (c.toNat : Int) / 16 ∧ (c.toNat : Int) / 16 < 16) := by omega
    have i2 : (0 ≤ (c.toNat : Int) % 16 ∧ (c.toNat : Int) % 16 < 16) := by omega
    have x1 := hex_at ((c.toNat : Int) / 16) (c.toNat / 16) (by omega) (by omega)
    have x2 := hex_at ((c.toNat : Int) % 16) (c.toNat % 16) (by omega) (by omega)
    have hnews : ∀ W1 : World, (W.alloc (.cells #[.int .u8 37, .int .u8 ((hexU (c.toNat / 16)).toNat : Int), .int .u8 ((hexU (c.toNat % 16)).toNat : Int)] 5)).drew = W1 → W1.heap[W.heap.size]? = some (.cells (nums .u8 [37, ((hexU (c.toNat / 16)).toNat : Int), ((hexU (c.toNat % 16)).toNat : Int)]).toArray 5 (0, 0)) ∧ W1.ownsRow (a + 1) 5 1 v (bytesI l).length (nums .u8 (bytesI l)) ∧ a + 1 ≤ W1.heap.size ∧ W.grownBy W1 v.ownBlock := by
      rintro W1 rfl
      exact ⟨heap_alloc_new W _, HH.out.own.alloc _, by show a + 1 ≤ (W.alloc _).heap.size; simp; omega, let g := World.grownBy_alloc W (.cells #[.int .u8 37, .int .u8 ((hexU (c.toNat / 16)).toNat : Int), .int .u8 ((hexU (c.toNat % 16)).toNat : Int)] 5) v.ownBlock; ⟨g.os, g.tape, g.output, g.size, g.block⟩⟩
    have HN := Lib.hid hnews
    clear h hnews
    have three : decide ((c.toNat : Int) > 32) = false ∨ (decide ((c.toNat : Int) > 32) = true ∧ decide ((c.toNat : Int) < 127) = false) ∨ (decide ((c.toNat : Int) > 32) = true ∧ decide ((c.toNat : Int) < 127) = true ∧ ((c.toNat : Int) != 37) = false) := by
      by_cases h1 : (c.toNat : Int) > 32
      · by_cases h2 : (c.toNat : Int) < 127
        · exact .inr (.inr ⟨decide_eq_true h1, decide_eq_true h2, by simp; omega⟩)
        · exact .inr (.inl ⟨decide_eq_true h1, decide_eq_false h2⟩)
      · exact .inl (decide_eq_false h1)
    rcases three with b1 | ⟨b1, b2⟩ | ⟨b1, b2, b3⟩
    all_goals
      go_enter Try.func78, Try.ntmps78
      go_wp2_with fail
      refine start_ (n := 10) (S := fun w' => w'.cell? ⟨a, 0, none⟩ = some v) (ds := [8, 9]) #[false, false, false, false, false, false, false, false, false, false] (by kernel_rfl) rfl rfl (by go_simp) (fun hHeld => ?_)
      refine pure_ (i := 1) (N := some 19) (v := ?_) (a' := ?_) #[false, true, false, false, false, false, false, false, false, false] rfl rfl (by kernel_rfl) (fun _ _ _ h => h) (Or.inl ⟨by rfl, ?_⟩) ?_ ?_
      rotate_left
      · intro w'
        go_simp
        with_reducible rfl
      rotate_left
      · simp only [Act.put, List.setIfInBounds_toArray, List.set_cons_zero, List.set_cons_succ, i64_w, i32_w]
        rfl
      refine pure_ (i := 2) (N := some 20) (v := ?_) (a' := ?_) #[false, true, true, false, false, false, false, false, false, false] rfl rfl (by kernel_rfl) (fun _ _ _ h => h) (Or.inl ⟨by rfl, ?_⟩) ?_ ?_
      rotate_left
      · intro w'
        go_simp
        with_reducible rfl
      rotate_left
      · simp only [Act.put, List.setIfInBounds_toArray, List.set_cons_zero, List.set_cons_succ, i64_w, i32_w]
        rfl
      refine pure_ (i := 4) (N := some 22) (v := ?_) (a' := ?_) #[false, true, true, false, true, false, false, false, false, false] rfl rfl (by kernel_rfl) (fun _ _ _ h => h) (Or.inl ⟨by rfl, ?_⟩) ?_ ?_
      rotate_left
      · intro w'
        go_simp
        with_reducible rfl
      rotate_left
      · simp only [Act.put, List.setIfInBounds_toArray, List.set_cons_zero, List.set_cons_succ, i64_w, i32_w]
        rfl
      refine pure_ (i := 5) (N := some 23) (v := ?_) (a' := ?_) #[false, true, true, false, true, true, false, false, false, false] rfl rfl (by kernel_rfl) (fun _ _ _ h => h) (Or.inl ⟨by rfl, ?_⟩) ?_ ?_
      rotate_left
      · intro w'
        go_simp
        with_reducible rfl
      rotate_left
      · simp only [Act.put, List.setIfInBounds_toArray, List.set_cons_zero, List.set_cons_succ, i64_w, i32_w]
        rfl
      refine take_ (i := 0) (N := some 18) (v := ?_) (a' := ?_) #[true, true, true, false, true, true, false, false, false, false] rfl rfl (by kernel_rfl) (fun _ _ _ h => h) (Or.inl ⟨by rfl, ?_⟩) hHeld ?_ ?_
      rotate_left
      · intro w' s0
        go_simp
        with_reducible rfl
      rotate_left
      · simp only [Act.put, List.setIfInBounds_toArray, List.set_cons_zero, List.set_cons_succ, i64_w, i32_w]
        rfl
      refine take_ (i := 3) (N := some 21) (v := ?_) (a' := ?_) #[true, true, true, true, true, true, false, false, false, false] rfl rfl (by kernel_rfl) (fun _ _ _ h => h) (Or.inl ⟨by rfl, ?_⟩) hHeld ?_ ?_
      rotate_left
      · intro w' s0
        go_simp
        with_reducible rfl
      rotate_left
      · simp only [Act.put, List.setIfInBounds_toArray, List.set_cons_zero, List.set_cons_succ, i64_w, i32_w]
        rfl
      refine take_ (i := 6) (N := some 24) (v := ?_) (a' := ?_) #[true, true, true, true, true, true, true, false, false, false] rfl rfl (by kernel_rfl) (fun _ _ _ h => h) (Or.inl ⟨by rfl, ?_⟩) hHeld ?_ ?_
      rotate_left
      · intro w' s0
        go_simp
        with_reducible rfl
      rotate_left
      · simp only [Act.put, List.setIfInBounds_toArray, List.set_cons_zero, List.set_cons_succ, i64_w, i32_w]
        rfl
      refine one_ (i := 7) (N := some 25) #[true, true, true, true, true, true, true, true, false, false] rfl rfl (by kernel_rfl) (by decide) (fun K hK => ?_)
      refine value_ (w1 := ?_) (v := ?_) (by rfl) rfl ?_ ?_
      rotate_left 2
      · go_simp
        constructor
        · rfl
        · rfl
      refine hK.out _ _ (by go_simp) (fun hHeld => ?_)
      clear hK K
      refine norm_ (a' := ?_) ?_ ?_
      rotate_left
      · show Act.put _ (some 25) _ = _
        simp only [Act.put, List.setIfInBounds_toArray, List.set_cons_zero, List.set_cons_succ, i64_w, i32_w]
        rfl
      refine last_ (i := 8) (N := some 26) #[true, true, true, true, true, true, true, true, true, false] rfl rfl (by kernel_rfl) (by decide) (fun K hK => ?_)
      obtain ⟨hg1, hg2, hg3, hg4⟩ := HN.out _ rfl
      refine step_append_news _ (a + 1) (by rfl) (.tmp 18) (.tmp 25) 56 5 .u8 1 rfl Try.underlying56 info5 (by omega) v (bytesI l) [37, ((hexU (c.toNat / 16)).toNat : Int), ((hexU (c.toNat % 16)).toNat : Int)] W.heap.size 3 (0, 0) rfl rfl hg1 hg2 hg3 (by simp only [List.length_cons, List.length_nil]; omega) ?_
      intro v1 w1 ho hg
      obtain ⟨hc1, hf1, hs⟩ := HH.out.stored ho (hg4.trans hg)
      obtain ⟨n1, A1, c1, e1⟩ : ∃ n A c, v1 = .slice A n c := ⟨_, own_slice ho⟩
      subst e1
      have HS := Lib.hid hs
      clear ho hg hs hg1 hg2 hg3 hg4
      refine hK.out _ _ ?_
      clear hK K
      refine norm_ (a' := ?_) ?_ ?_
      rotate_left
      · show Act.put _ (some 26) _ = _
        simp only [Act.put, List.setIfInBounds_toArray, List.set_cons_zero, List.set_cons_succ, i64_w, i32_w]
        rfl
      refine last_ (i := 9) (N := none) #[true, true, true, true, true, true, true, true, true, true] rfl rfl (by kernel_rfl) (by decide) (fun K hK => ?_)
      refine skip_ (w1 := ?_) (by rfl) rfl ?_ ?_
      rotate_left
      · go_simp
        rfl
      refine hK.out _ _ ?_
      clear hK K
      refine done_ (by kernel_rfl) ?_
      go_wp2
      go_ret
      exact ⟨rfl, _, by rw [hesc.out, bytesI_append]; exact HS.out.1, HS.out.2⟩

theorem dsize (s : ByteArray) : s.data.toList.length = s.size := by rw [Array.length_toList]; rfl

theorem strOf_bytesI (l : List UInt8) : strOfNums (bytesI l) = ⟨l.toArray⟩ := by
  unfold strOfNums bytesI
  congr 2
  rw [List.map_map]
  conv => rhs; rw [← List.map_id l]
  apply List.map_congr_left
  intro c _
  simp

theorem hF_esc : ∀ args (W : World), (callFunc 78 args).run Try.prog W = .ok (.enter 78 args) W :=
  fun args W => enters_ Try.func78 (by kernel_rfl) rfl args W

set_option maxHeartbeats 400000 in
set_option maxRecDepth 100000 in
theorem esc_calls (s : ByteArray) (w : World) (hs : s.size ≤ 35184372088832) :
    Calls Try.prog 55 #[.string s] w fun e w' => e = .returned (.string (escB s)) ∧ Below w.heap.size w w' := by
  by_cases h0 : s.toList = []
  · have hb : escB s = ⟨#[37]⟩ := by
      have : s.data.toList = [] := by simpa [ByteArray.toList_eq] using h0
      unfold escB escL; rw [if_pos this]
    have HB := Lib.hid hb
    clear hb
    go_enter Try.func55, Try.ntmps55
    go_wp2
    go_ret
    exact ⟨by rw [HB.out]; rfl, Below.refl _ _⟩
  · have hb : escB s = ⟨((s.data.toList.take s.size).flatMap escC).toArray⟩ := by
      have : ¬ s.data.toList = [] := by simpa [ByteArray.toList_eq] using h0
      unfold escB escL; rw [if_neg this, List.take_of_length_le (by rw [dsize]; omega)]
    have HB := Lib.hid hb
    clear hb
    have h1 : s.toList.isEmpty = false := by simpa using h0
    go_enter Try.func55, Try.ntmps55
    go_wp2_with fail
    refine (each_calls s 78 _ hF_esc (fun k W => ∃ v, Holds w.heap.size (bytesI ((s.data.toList.take k).flatMap escC)) v W ∧ Below w.heap.size w W) (fun _ => False) _ (by omega) ?_ ?_).mono ?_
    · exact ⟨.slice none 0 0, ⟨heap_alloc_new w _, own_nil _ _ _ _⟩, (Below.refl _ _).alloc (Nat.le_refl _) _⟩
    · rintro i hi W ⟨v, hH, hB⟩
      have hlen : ((s.data.toList.take i).flatMap escC).length ≤ 105553116266496 := by
        have := flat_len (s.data.toList.take i)
        have := List.length_take_le i s.data.toList
        have := dsize s
        omega
      refine (esc1_calls s[i] w.heap.size _ v W hH hlen).mono ?_
      rintro e W' ⟨rfl, v', h2, h3⟩
      refine .inl ⟨rfl, v', ?_, hB.trans h3⟩
      have : s.data.toList.take (i + 1) = s.data.toList.take i ++ [s[i]] := by
        rw [List.take_succ_eq_append_getElem (by rw [dsize]; exact hi)]; rfl
      rw [this, List.flatMap_append]
      simpa using h2
    · rintro e w' (⟨rfl, v, hH, hB⟩ | ⟨_, h⟩)
      · have hv : w'.cell? ⟨w.heap.size, 0, none⟩ = some v := cell_of_one hH.cell
        have hcv := own_string (P := Try.prog) Try.underlying56 Try.underlying5 Try.underlying9 hH.own
        rw [strOf_bytesI, ← HB.out] at hcv
        have HBl := Lib.hid hB
        clear hH hB
        go_wp2
        go_ret
        exact ⟨rfl, HBl.out⟩
      · exact h.elim

end Go.Proofs.Ytnpmkaklkonofaa.Txt


/- text.UnDec reads a number's decimal digits: what Dec writes, and nothing else. -/
namespace Go.Proofs.Ytnpmkaklkonofaa.Txt
open Go.RowKit Go.Proofs.YtnpmkaklkonofaaW.PrintWords Go.Proofs.YtnpmkaklkonofaaW.PrintLast

/-- One more digit. -/
def undecStep (n : Int) (c : UInt8) : Int := wrap64 (wrap64 (wrap64 (10 * n) + (c.toNat : Int)) - 48)
theorem undecStep_range (n : Int) (c : UInt8) : -9223372036854775808 ≤ undecStep n c ∧ undecStep n c ≤ 9223372036854775807 := by
  unfold undecStep wrap64; omega
theorem fold_range (l : List UInt8) : ∀ n : Int, -9223372036854775808 ≤ n → n ≤ 9223372036854775807 → -9223372036854775808 ≤ l.foldl undecStep n ∧ l.foldl undecStep n ≤ 9223372036854775807 := by
  induction l with
  | nil => intro n h1 h2; exact ⟨h1, h2⟩
  | cons c l ih => intro n _ _; exact ih _ (undecStep_range n c).1 (undecStep_range n c).2

def undecV (l : List UInt8) : Int := if l.headD 0 = 45 then wrap64 (-((l.drop 1).foldl undecStep 0)) else l.foldl undecStep 0
def unDec (s : ByteArray) : Int × Int := if s.size = 0 ∨ 20 < s.size then (0, 42) else if decB (undecV s.data.toList) = s then (undecV s.data.toList, 0) else (0, 42)

set_option maxHeartbeats 400000 in
set_option maxRecDepth 100000 in
theorem undec1_calls (c : UInt8) (a : Nat) (n : Int) (W : World) (h : W.heap[a]? = some (.cells #[.int .i64 n] 3 (0, 0))) :
    Calls Try.prog 81 #[.int .u8 (c.toNat : Int), .pointer (some ⟨a, 0, none⟩)] W fun e W' => e = .returned (.bool true) ∧ W'.heap[a]? = some (.cells #[.int .i64 (undecStep n c)] 3 (0, 0)) ∧ Below a W W' := by
  have hc : c.toNat < 256 := c.toNat_lt
  have ha : a < W.heap.size := lt_of_block h
  have hv : W.cell? ⟨a, 0, none⟩ = some (.int .i64 n) := cell_of_one h
  have hf : W.frozen? ⟨a, 0, none⟩ = false := free_of_one h
  have HH := Lib.hid h
  clear h
  go_enter Try.func81, Try.ntmps81
  go_wp2
  go_ret
  exact ⟨rfl, one_setCell HH.out, Below.setCell (p := ⟨a, 0, none⟩) (Below.refl a W) (Nat.le_refl _) _⟩

theorem hF_undec : ∀ args (W : World), (callFunc 81 args).run Try.prog W = .ok (.enter 81 args) W :=
  fun args W => enters_ Try.func81 (by kernel_rfl) rfl args W

theorem undec_no (s : ByteArray) (h : s.size = 0 ∨ 20 < s.size) : unDec s = (0, 42) := by unfold unDec; rw [if_pos h]
theorem undec_yes (s : ByteArray) (v : Int) (h : ¬ (s.size = 0 ∨ 20 < s.size)) (hv : undecV s.data.toList = v) : unDec s = if decB v = s then (v, 0) else (0, 42) := by
  unfold unDec; rw [if_neg h, hv]

theorem extract_drop (s : ByteArray) : (s.extract 1 s.size).data.toList = s.data.toList.drop 1 := by
  rw [ByteArray.data_extract, Array.toList_extract]
  rw [List.extract_eq_take_drop, List.take_of_length_le (by rw [List.length_drop, dsize]; omega)]

theorem beq_yes {a b : ByteArray} (h : a = b) : (a.toList == b.toList) = true := by rw [h]; exact beq_self_eq_true _
theorem beq_no {a b : ByteArray} (h : ¬ a = b) : (a.toList == b.toList) = false := by
  rw [beq_eq_false_iff_ne]
  intro e
  rw [ByteArray.toList_eq, ByteArray.toList_eq] at e
  exact h (ByteArray.ext (Array.toList_inj.1 e))

theorem take_next (s : ByteArray) (i : Nat) (hi : i < s.size) : s.data.toList.take (i + 1) = s.data.toList.take i ++ [s[i]] := by
  rw [List.take_succ_eq_append_getElem (by rw [dsize]; exact hi)]; rfl

set_option maxHeartbeats 400000 in
set_option maxRecDepth 100000 in
theorem undec_calls (s : ByteArray) (w : World) (hs : s.size ≤ 140737488351232) :
    Calls Try.prog 65 #[.string s] w fun e w' => e = .returned (.tuple #[.int .i64 (unDec s).1, .int .i64 (unDec s).2]) ∧ Below w.heap.size w w' := by
  by_cases h0 : s.size = 0
  · have hb := Lib.hid (undec_no s (.inl h0))
    have g0 : ((s.size : Int) == 0) = true := by simp [h0]
    clear h0
    go_enter Try.func65, Try.ntmps65
    go_wp2
    go_ret2
    exact ⟨by rw [hb.out]; rfl, Below.refl _ _⟩
  by_cases h20 : 20 < s.size
  · have hb := Lib.hid (undec_no s (.inr h20))
    have g0 : ((s.size : Int) == 0) = false := beq_eq_false_iff_ne.2 (by omega)
    have g1 : decide ((s.size : Int) > 20) = true := decide_eq_true (by omega)
    clear h0
    go_enter Try.func65, Try.ntmps65
    go_wp2
    go_ret2
    exact ⟨by rw [hb.out]; rfl, Below.refl _ _⟩
  have hlen : 0 < s.size := by omega
  have g0 : ((s.size : Int) == 0) = false := beq_eq_false_iff_ne.2 (by omega)
  have g1 : decide ((s.size : Int) > 20) = false := decide_eq_false (by omega)
  have hh : s.data.toList.headD 0 = s[0] := by
    rw [List.headD_eq_head?_getD, List.head?_eq_getElem?, List.getElem?_eq_getElem (by rw [dsize]; exact hlen)]; rfl
  have hcase := undec_yes s (undecV s.data.toList) (by omega) rfl
  by_cases hm : s[0] = 45
  · have hV : undecV s.data.toList = wrap64 (-((s.data.toList.drop 1).foldl undecStep 0)) := by unfold undecV; rw [hh, if_pos hm]
    rw [hV] at hcase
    have hr : -9223372036854775808 ≤ wrap64 (-((s.data.toList.drop 1).foldl undecStep 0)) ∧ wrap64 (-((s.data.toList.drop 1).foldl undecStep 0)) ≤ 9223372036854775807 := by unfold wrap64; omega
    have HR := Lib.hid hr
    have HC := Lib.hid hcase
    have g2 : ((s[0].toNat : Int) == 45) = true := by rw [hm]; rfl
    clear hV hcase hh hm hr h0
    go_enter Try.func65, Try.ntmps65
    go_wp2_with fail
    have hd := extract_drop s
    refine (each_calls (s.extract 1 s.size) 81 _ hF_undec (fun k W => W.heap[w.heap.size]? = some (.cells #[.int .i64 (((s.data.toList.drop 1).take k).foldl undecStep 0)] 3 (0, 0)) ∧ Below w.heap.size w W) (fun _ => False) _ (by rw [← dsize, hd, List.length_drop, dsize]; omega) ?_ ?_).mono ?_
    · exact ⟨heap_alloc_new w _, (Below.refl _ _).alloc (Nat.le_refl _) _⟩
    · rintro i hi W ⟨hH, hB⟩
      refine (undec1_calls _ w.heap.size _ W hH).mono ?_
      rintro e W' ⟨rfl, h2, h3⟩
      refine .inl ⟨rfl, ?_, hB.trans h3⟩
      rw [← hd, take_next _ _ hi, List.foldl_append, hd]
      exact h2
    · rintro e w' (⟨rfl, hH, hB⟩ | ⟨_, h⟩)
      · rw [← hd, List.take_of_length_le (by rw [dsize]; omega), hd] at hH
        generalize (s.data.toList.drop 1).foldl undecStep 0 = v at hH HC HR
        have hv : w'.cell? ⟨w.heap.size, 0, none⟩ = some (.int .i64 v) := cell_of_one hH
        have hf : w'.frozen? ⟨w.heap.size, 0, none⟩ = false := free_of_one hH
        have hlt : w.heap.size < w'.heap.size := lt_of_block hH
        have hH2 := one_setCell (u := .int .i64 (wrap64 (-v))) hH
        have hB2 := Below.setCell (p := ⟨w.heap.size, 0, none⟩) hB (Nat.le_refl _) (.int .i64 (wrap64 (-v)))
        generalize hw2 : w'.setCell ⟨w.heap.size, 0, none⟩ (.int .i64 (wrap64 (-v))) = w2 at hH2 hB2
        have HH := Lib.hid hH2
        have HB := Lib.hid hB2
        clear hd hH hB hH2 hB2
        have HW := Lib.hid hw2
        clear hw2
        go_wp2_with fail
        rw [HW.out]
        clear HW hv hf
        refine (dec_calls (wrap64 (-v)) _ HR.out.1 HR.out.2).mono ?_
        rintro e w3 ⟨rfl, hb3⟩
        have hH3 : w3.heap[w.heap.size]? = some (.cells #[.int .i64 (wrap64 (-v))] 3 (0, 0)) := (hb3.block _ (lt_of_block HH.out)).trans HH.out
        have hv3 : w3.cell? ⟨w.heap.size, 0, none⟩ = some (.int .i64 (wrap64 (-v))) := cell_of_one hH3
        have HB3 := Lib.hid (HB.out.trans (hb3.mono HB.out.size))
        clear hH3 hb3
        by_cases heq : decB (wrap64 (-v)) = s
        · have HE := Lib.hid (HC.out.trans (if_pos heq))
          have g5 := beq_yes heq
          clear heq
          go_wp2
          go_ret2
          exact ⟨by rw [HE.out]; rfl, HB3.out⟩
        · have HE := Lib.hid (HC.out.trans (if_neg heq))
          have g5 := beq_no heq
          clear heq
          go_wp2
          go_ret2
          exact ⟨by rw [HE.out]; rfl, HB3.out⟩
      · exact h.elim
  · have hV : undecV s.data.toList = s.data.toList.foldl undecStep 0 := by unfold undecV; rw [hh, if_neg hm]
    rw [hV] at hcase
    have HR := Lib.hid (fold_range s.data.toList 0 (by omega) (by omega))
    have HC := Lib.hid hcase
    have g2 : ((s[0].toNat : Int) == 45) = false := by
      rw [beq_eq_false_iff_ne]
      intro e
      exact hm (UInt8.toNat.inj (by show s[0].toNat = 45; omega))
    clear hV hcase hh hm h0
    go_enter Try.func65, Try.ntmps65
    go_wp2_with fail
    refine (each_calls s 81 _ hF_undec (fun k W => W.heap[w.heap.size]? = some (.cells #[.int .i64 ((s.data.toList.take k).foldl undecStep 0)] 3 (0, 0)) ∧ Below w.heap.size w W) (fun _ => False) _ (by omega) ?_ ?_).mono ?_
    · exact ⟨heap_alloc_new w _, (Below.refl _ _).alloc (Nat.le_refl _) _⟩
    · rintro i hi W ⟨hH, hB⟩
      refine (undec1_calls _ w.heap.size _ W hH).mono ?_
      rintro e W' ⟨rfl, h2, h3⟩
      refine .inl ⟨rfl, ?_, hB.trans h3⟩
      rw [take_next _ _ hi, List.foldl_append]
      exact h2
    · rintro e w' (⟨rfl, hH, hB⟩ | ⟨_, h⟩)
      · rw [List.take_of_length_le (by rw [dsize]; omega)] at hH
        generalize s.data.toList.foldl undecStep 0 = v at hH HC HR
        have hv : w'.cell? ⟨w.heap.size, 0, none⟩ = some (.int .i64 v) := cell_of_one hH
        have HH := Lib.hid hH
        have HB := Lib.hid hB
        clear hH hB
        go_wp2_with fail
        clear hv
        refine (dec_calls v _ HR.out.1 HR.out.2).mono ?_
        rintro e w3 ⟨rfl, hb3⟩
        have hH3 : w3.heap[w.heap.size]? = some (.cells #[.int .i64 v] 3 (0, 0)) := (hb3.block _ (lt_of_block HH.out)).trans HH.out
        have hv3 : w3.cell? ⟨w.heap.size, 0, none⟩ = some (.int .i64 v) := cell_of_one hH3
        have HB3 := Lib.hid (HB.out.trans (hb3.mono HB.out.size))
        clear hH3 hb3
        by_cases heq : decB v = s
        · have HE := Lib.hid (HC.out.trans (if_pos heq))
          have g5 := beq_yes heq
          clear heq
          go_wp2
          go_ret2
          exact ⟨by rw [HE.out]; rfl, HB3.out⟩
        · have HE := Lib.hid (HC.out.trans (if_neg heq))
          have g5 := beq_no heq
          clear heq
          go_wp2
          go_ret2
          exact ⟨by rw [HE.out]; rfl, HB3.out⟩
      · exact h.elim

end Go.Proofs.Ytnpmkaklkonofaa.Txt


/- text.tabled: which place of an alphabet a byte has. -/
namespace Go.Proofs.Ytnpmkaklkonofaa.Txt
open Go.RowKit Go.Proofs.YtnpmkaklkonofaaW.PrintWords Go.Proofs.YtnpmkaklkonofaaW.PrintLast

/-- The table behind the first k bytes of an alphabet. -/
def tabN (l : List UInt8) : Nat → List Int
  | 0 => List.replicate 256 0
  | k + 1 => (tabN l k).set (l.getD k 0).toNat (((k : Int) + 1) % 256)
theorem tabN_length (l : List UInt8) : ∀ k, (tabN l k).length = 256
  | 0 => List.length_replicate
  | k + 1 => by rw [tabN, List.length_set, tabN_length l k]
/-- The table as a value's cells. -/
def tabV (l : List UInt8) (k : Nat) : Array Value := (nums .u8 (tabN l k)).toArray
theorem tabV_size (l : List UInt8) (k : Nat) : (tabV l k).size = 256 := by simp [tabV, nums_length, tabN_length]
theorem tabV_succ (l : List UInt8) (k : Nat) : tabV l (k + 1) = (tabV l k).setIfInBounds (l.getD k 0).toNat (.int .u8 (((k : Int) + 1) % 256)) := by
  apply Array.toList_inj.1
  simp [tabV, nums, tabN, List.map_set]
theorem tabV_one (l : List UInt8) (k : Nat) : (tabV l k).all (·.oneCell') = true := by
  rw [Array.all_eq_true_iff_forall_mem]
  intro v hv
  simp only [tabV, nums, List.mem_toArray, List.mem_map] at hv
  obtain ⟨n, _, rfl⟩ := hv
  rfl
theorem tabV_zero : ∀ l, Try.zeroCells130 = tabV l 0 := fun l => by
  have : Try.zeroCells130 = (nums .u8 (List.replicate 256 0)).toArray := by kernel_rfl
  exact this

theorem info130 : (Try.prog.info? 130).map (·.size) = some 256 := by kernel_rfl

set_option maxHeartbeats 400000 in
set_option maxRecDepth 100000 in
theorem tabled_calls (s : ByteArray) (w : World) (hs : s.size ≤ 140737488351232) :
    Calls Try.prog 80 #[.string s] w fun e w' => e = .returned (.agg (tabV s.data.toList s.size)) ∧ Below w.heap.size w w' := by
  go_enter Try.func80, Try.ntmps80
  go_wp2
  go_loopw [4] (fun v4 wr => ∃ k : Nat, v4 = .int .i64 k ∧ k ≤ s.size ∧ Hid (wr.heap[w.heap.size]? = some (.cells Try.zeroCells130 130 (0, 0)) ∧ wr.heap[w.heap.size + 1]? = some (.cells (tabV s.data.toList k) 130 (0, 0)) ∧ Below w.heap.size w wr)) (fun v4 _ => s.size - (intOf v4).toNat)
  case atStart => exact ⟨0, rfl, by omega, heap_alloc2_old w _ _, by rw [← tabV_zero]; exact heap_alloc2_new w _ _, ((Below.refl _ _).alloc (Nat.le_refl _) _).alloc (by simp) _⟩
  case round =>
    obtain ⟨k, rfl, hk, HI⟩ := hrel
    by_cases hlt : k < s.size
    · obtain ⟨h1, h2, h3⟩ := HI.out
      have hb : s[k].toNat < 256 := s[k].toNat_lt
      have hc : wr.cell? ⟨w.heap.size + 1, s[k].toNat, none⟩ = some ((tabV s.data.toList k)[s[k].toNat]'(by rw [tabV_size]; exact hb)) := by
        rw [cell_of_row wr _ _ _ _ _ h2, Array.getElem?_eq_getElem]
      have hf : wr.frozen? ⟨w.heap.size + 1, s[k].toNat, none⟩ = false := frozen_of_row wr _ _ _ _ h2
      have hn : Hid ((wr.setCell ⟨w.heap.size + 1, s[k].toNat, none⟩ (.int .u8 (((k : Int) + 1) % 256))).heap[w.heap.size]? = some (.cells Try.zeroCells130 130 (0, 0)) ∧ (wr.setCell ⟨w.heap.size + 1, s[k].toNat, none⟩ (.int .u8 (((k : Int) + 1) % 256))).heap[w.heap.size + 1]? = some (.cells (tabV s.data.toList (k + 1)) 130 (0, 0)) ∧ Below w.heap.size w (wr.setCell ⟨w.heap.size + 1, s[k].toNat, none⟩ (.int .u8 (((k : Int) + 1) % 256)))) := by
        have hg : s.data.toList.getD k 0 = s[k] := by
          rw [List.getD_eq_getElem?_getD, List.getElem?_eq_getElem (by rw [dsize]; exact hlt)]; rfl
        refine ⟨?_, ?_, h3.setCell (by simp) _⟩
        · rw [heap_setCell_other _ _ _ _ (by simp)]; exact h1
        · rw [setCell_eq_setRow _ _ _ _ _ _ _ h2, setRow_heap _ _ _ _ _ _ h2, tabV_succ, hg]
      clear h1 h2 h3 HI
      go_wp2
      go_roundw
      case rel => exact ⟨k + 1, by go_num, by omega, hn⟩
      case measure => simp [intOf]; omega
    · obtain rfl : k = s.size := by omega
      obtain ⟨h1, h2, h3⟩ := HI.out
      have H1 := Lib.hid h1
      have H2 := Lib.hid h2
      have H3 := Lib.hid h3
      clear h1 h2 h3 HI
      go_wp2_with (first | (refine wpList_load_row rfl 130 (.tmp 3) rfl _ rfl 130 (tabV s.data.toList s.size) (0, 0) _ H2.out Try.underlying130 rfl (by rw [tabV_size]; exact info130) ?_) | (refine wpList_store_row rfl 130 (.tmp 2) (.tmp 18) rfl _ (tabV s.data.toList s.size) rfl rfl 130 _ H1.out (by rw [tabV_size]; exact info130) (by rw [tabV_size]; kernel_rfl) (tabV_one _ _) ?_))
      exact bodyPost_ret (v := .agg (tabV s.data.toList s.size)) (results_cell_row rfl _ _ w.heap.size 130 (tabV s.data.toList s.size) (0, 0) _ rfl (setRow_heap _ _ _ _ _ _ H1.out) Try.underlying130 rfl (by rw [tabV_size]; exact info130)) rfl ⟨rfl, below_setRow H3.out (Nat.le_refl _) _⟩

end Go.Proofs.Ytnpmkaklkonofaa.Txt


/- Plain: what Unescape reads. -/
namespace Go.Proofs.Ytnpmkaklkonofaa.Txt

/-- The place of a great hexadecimal digit, counted from 1; 0: it is none. -/
def hexP (c : UInt8) : Nat := if 48 ≤ c.toNat ∧ c.toNat ≤ 57 then c.toNat - 47 else if 65 ≤ c.toNat ∧ c.toNat ≤ 70 then c.toNat - 54 else 0
theorem hexP_le (c : UInt8) : hexP c ≤ 16 := by unfold hexP; split <;> (try split) <;> omega
def hexC (a b : UInt8) : UInt8 := UInt8.ofNat ((hexP a - 1) * 16 + (hexP b - 1))

def unescS : List UInt8 → Option (List UInt8)
  | [] => some []
  | c :: r => if c ≠ 37 then (unescS r).map (c :: ·) else
    match r with
    | a :: b :: r' => if hexP a = 0 ∨ hexP b = 0 then none else (unescS r').map (hexC a b :: ·)
    | _ => none
def unesc (w : ByteArray) : ByteArray × Int := if w = ⟨#[37]⟩ then (⟨#[]⟩, 0) else
  match unescS w.data.toList with
  | none => (⟨#[]⟩, 44)
  | some t => if escB ⟨t.toArray⟩ = w then (⟨t.toArray⟩, 0) else (⟨#[]⟩, 44)

theorem unescS_plain {c : UInt8} {r : List UInt8} (h : c ≠ 37) : unescS (c :: r) = (unescS r).map (c :: ·) := by
  conv => lhs; rw [unescS.eq_def]
  exact if_pos h
theorem unescS_short {r : List UInt8} (h : r.length < 2) : unescS (37 :: r) = none := by
  match r, h with
  | [], _ => rfl
  | [a], _ => rfl
theorem unescS_bad {a b : UInt8} {r : List UInt8} (h : hexP a = 0 ∨ hexP b = 0) : unescS (37 :: a :: b :: r) = none := by rw [unescS.eq_def]; simp [h]
theorem unescS_hex {a b : UInt8} {r : List UInt8} (h : ¬ (hexP a = 0 ∨ hexP b = 0)) : unescS (37 :: a :: b :: r) = (unescS r).map (hexC a b :: ·) := by
  conv => lhs; rw [unescS.eq_def]
  simp only [ne_eq, not_true_eq_false, if_false]; rw [if_neg h]

/-- The reading so far, and what is left. -/
def UnescAt (w : List UInt8) (i : Nat) (acc : List UInt8) : Prop := unescS w = (unescS (w.drop i)).map (acc ++ ·)
theorem UnescAt.start (w : List UInt8) : UnescAt w 0 [] := by unfold UnescAt; simp
theorem UnescAt.plain {w : List UInt8} {i : Nat} {acc : List UInt8} (h : UnescAt w i acc) (hi : i < w.length) (hc : w[i] ≠ 37) : UnescAt w (i + 1) (acc ++ [w[i]]) := by
  unfold UnescAt at *
  rw [h, List.drop_eq_getElem_cons hi, unescS_plain hc, Option.map_map]
  congr 1
  funext t
  simp
theorem UnescAt.hex {w : List UInt8} {i : Nat} {acc : List UInt8} (h : UnescAt w i acc) (hi : i + 2 < w.length) (hc : w[i]'(by omega) = 37) (hb : ¬ (hexP (w[i + 1]'(by omega)) = 0 ∨ hexP w[i + 2] = 0)) :
    UnescAt w (i + 2 + 1) (acc ++ [hexC (w[i + 1]'(by omega)) w[i + 2]]) := by
  unfold UnescAt at *
  rw [h, List.drop_eq_getElem_cons (by omega : i < w.length), hc, List.drop_eq_getElem_cons (by omega : i + 1 < w.length), List.drop_eq_getElem_cons hi, unescS_hex hb, Option.map_map]
  congr 1
  funext t
  simp
theorem UnescAt.none_short {w : List UInt8} {i : Nat} {acc : List UInt8} (h : UnescAt w i acc) (hi : i < w.length) (hc : w[i] = 37) (hs : w.length ≤ i + 2) : unescS w = none := by
  unfold UnescAt at h
  rw [h, List.drop_eq_getElem_cons hi, hc, unescS_short (by rw [List.length_drop]; omega)]; rfl
theorem UnescAt.none_bad {w : List UInt8} {i : Nat} {acc : List UInt8} (h : UnescAt w i acc) (hi : i + 2 < w.length) (hc : w[i]'(by omega) = 37) (hb : hexP (w[i + 1]'(by omega)) = 0 ∨ hexP w[i + 2] = 0) : unescS w = none := by
  unfold UnescAt at h
  rw [h, List.drop_eq_getElem_cons (by omega : i < w.length), hc, List.drop_eq_getElem_cons (by omega : i + 1 < w.length), List.drop_eq_getElem_cons hi, unescS_bad hb]; rfl
theorem UnescAt.done {w : List UInt8} {acc : List UInt8} (h : UnescAt w w.length acc) : unescS w = some acc := by
  unfold UnescAt at h
  rw [h, List.drop_length]; simp [unescS]

theorem unesc_pct : unesc ⟨#[37]⟩ = (⟨#[]⟩, 0) := by unfold unesc; rw [if_pos rfl]
theorem unesc_none {w : ByteArray} (h : w ≠ ⟨#[37]⟩) (hn : unescS w.data.toList = none) : unesc w = (⟨#[]⟩, 44) := by unfold unesc; rw [if_neg h, hn]
theorem unesc_some {w : ByteArray} {t : List UInt8} (h : w ≠ ⟨#[37]⟩) (hn : unescS w.data.toList = some t) : unesc w = if escB ⟨t.toArray⟩ = w then (⟨t.toArray⟩, 0) else (⟨#[]⟩, 44) := by unfold unesc; rw [if_neg h, hn]

end Go.Proofs.Ytnpmkaklkonofaa.Txt


/- text.Unescape reads a word. -/
namespace Go.Proofs.Ytnpmkaklkonofaa.Txt
open Go.RowKit Go.Proofs.YtnpmkaklkonofaaW.PrintWords Go.Proofs.YtnpmkaklkonofaaW.PrintLast

def bigL : List UInt8 := [48, 49, 50, 51, 52, 53, 54, 55, 56, 57, 65, 66, 67, 68, 69, 70]

set_option maxRecDepth 100000 in
theorem tab_big : ∀ c : UInt8, (tabV bigL 16)[c.toNat]? = some (.int .u8 (hexP c : Int)) := by
  have key : ∀ m : Fin 256, (tabN bigL 16)[m.val]? = some (hexP (UInt8.ofNat m.val) : Int) := by decide +kernel
  intro c
  have h := key ⟨c.toNat, c.toNat_lt⟩
  have e : UInt8.ofNat c.toNat = c := by simp
  rw [e] at h
  unfold tabV nums
  rw [List.getElem?_toArray, List.getElem?_map, h]
  rfl

theorem or_hex (x y : Nat) (h1 : 1 ≤ x) (hx : x ≤ 16) (h2 : 1 ≤ y) (hy : y ≤ 16) : bits .or .u8 (((x : Int) - 1) * 16) ((y : Int) - 1) = (((x - 1) * 16 + (y - 1) : Nat) : Int) := by
  have key : ∀ a b : Fin 16, bits .or .u8 ((a.val : Int) * 16) (b.val : Int) = ((a.val * 16 + b.val : Nat) : Int) := by decide +kernel
  have h := key ⟨x - 1, by omega⟩ ⟨y - 1, by omega⟩
  rw [show (x : Int) - 1 = ((x - 1 : Nat) : Int) by omega, show (y : Int) - 1 = ((y - 1 : Nat) : Int) by omega]
  exact h

/-- What the loop knows of the world: the table in block T, the bytes so far in a row of the call's own. -/
structure UState (B T : Nat) (acc : List UInt8) (v : Value) (w wr : World) : Prop where
  base : B ≤ T
  table : wr.heap[T]? = some (.cells (tabV bigL 16) 130 (0, 0))
  own : wr.ownsRow (T + 1) 5 1 v (bytesI acc).length (nums .u8 (bytesI acc))
  below : Below B w wr

theorem UState.cell {B T : Nat} {acc : List UInt8} {v : Value} {w wr : World} (h : UState B T acc v w wr) (c : UInt8) : wr.cell? ⟨T, c.toNat, none⟩ = some (.int .u8 (hexP c : Int)) := by
  rw [cell_of_row wr _ _ _ _ _ h.table, tab_big]
theorem UState.grow {B T : Nat} {acc : List UInt8} {v : Value} {w wr w1 : World} (h : UState B T acc v w wr) {c : UInt8} {v1 : Value}
    (ho : w1.ownsRow (T + 1) 5 1 v1 (bytesI acc ++ [(c.toNat : Int)]).length (nums .u8 (bytesI acc ++ [(c.toNat : Int)]))) (hg : wr.grownBy w1 v.ownBlock) : UState B T (acc ++ [c]) v1 w w1 := by
  have hT := lt_of_block h.table
  have hB := h.base
  refine ⟨h.base, (hg.block T hT (fun e => by have := own_base h.own T e.symm; omega)).trans h.table, by rw [bytesI_append]; exact ho, h.below.grown hg (by omega) (fun k hk => by have := own_base h.own k hk; omega)⟩

set_option maxHeartbeats 1000000 in
set_option maxRecDepth 100000 in
theorem unesc_calls (s : ByteArray) (w : World) (hs : s.size ≤ 35184372088832) :
    Calls Try.prog 64 #[.string s] w fun e w' => e = .returned (.tuple #[.string (unesc s).1, .int .i64 (unesc s).2]) ∧ Below w.heap.size w w' := by
  by_cases h0 : s = ⟨#[37]⟩
  · have hb := Lib.hid unesc_pct
    subst h0
    go_enter Try.func64, Try.ntmps64
    go_wp2
    go_ret2
    exact ⟨by rw [hb.out]; rfl, Below.refl _ _⟩
  have g0 : (s.toList == [37]) = false := by have := beq_no h0; rwa [ByteArray.toList_eq ⟨#[37]⟩] at this
  have hT : tabV (⟨#[48, 49, 50, 51, 52, 53, 54, 55, 56, 57, 65, 66, 67, 68, 69, 70]⟩ : ByteArray).data.toList (⟨#[48, 49, 50, 51, 52, 53, 54, 55, 56, 57, 65, 66, 67, 68, 69, 70]⟩ : ByteArray).size = tabV bigL 16 := rfl
  go_enter Try.func64, Try.ntmps64
  go_wp2_with fail
  refine (tabled_calls ⟨#[48, 49, 50, 51, 52, 53, 54, 55, 56, 57, 65, 66, 67, 68, 69, 70]⟩ _ (by decide)).mono ?_
  rintro e w1 ⟨rfl, hb1⟩
  rw [hT]
  have HT := Lib.hid tab_big
  have HB1 := Lib.hid hb1
  clear hT hb1
  go_wp2_with (refine wpList_store_row rfl 130 (.tmp 4) (.tmp 10) rfl _ (tabV bigL 16) rfl rfl 130 _ (heap_alloc_new w1 _) (by rw [tabV_size]; exact info130) (by rw [tabV_size]; kernel_rfl) (tabV_one _ _) ?_)
  obtain ⟨w2, hw2, hr2, hB2⟩ : ∃ w2, (w1.alloc (.cells Try.zeroCells130 130)).setRow w1.heap.size (tabV bigL 16) = w2 ∧ w2.heap[w1.heap.size]? = some (.cells (tabV bigL 16) 130 (0, 0)) ∧ Below w.heap.size w w2 := ⟨_, rfl, setRow_heap _ _ _ _ _ _ (heap_alloc_new w1 _), below_setRow ((HB1.out).alloc HB1.out.size _) HB1.out.size _⟩
  rw [hw2]
  have HR2 := Lib.hid hr2
  have HB2 := Lib.hid hB2
  clear hr2 hB2 hw2
  have HS0 : Hid (UState w.heap.size w1.heap.size [] (.slice none 0 0) w w2) := ⟨HB1.out.size, HR2.out, own_nil _ _ _ _, HB2.out⟩
  clear HR2 HB2 HB1
  generalize w1.heap.size = T at *
  have hsl := dsize s
  have hget : ∀ j (hj : j < s.size), s.data.toList[j]'(by rw [dsize]; exact hj) = s[j] := fun j hj => rfl
  have HG := Lib.hid hget
  have HL := Lib.hid hsl
  clear hget hsl
  go_loopw [5, 6] (fun v5 v6 wr => ∃ (k : Nat) (acc : List UInt8), v6 = .int .i64 k ∧ k ≤ s.size ∧ acc.length ≤ k ∧ Hid (UnescAt s.data.toList k acc) ∧ Hid (UState w.heap.size T acc v5 w wr)) (fun _ v6 _ => s.size - (intOf v6).toNat)
  case atStart => exact ⟨0, [], rfl, by omega, by simp, UnescAt.start _, HS0⟩
  case round =>
    clear HS0
    obtain ⟨k, acc, rfl, hk, hacc, HU, HS⟩ := hrel
    obtain ⟨n5, A5, c5, rfl⟩ : ∃ n A c, u5 = Value.slice A n c := ⟨_, own_slice HS.out.own⟩
    have hba : (bytesI acc).length ≤ k := by rw [bytesI_length]; exact hacc
    by_cases hlt : k < s.size
    · by_cases hc : s[k] = 37
      · have g1 : ((s[k].toNat : Int) != 37) = false := by rw [hc]; rfl
        by_cases hsh : s.size ≤ k + 2
        · have HN := Lib.hid (unesc_none h0 (HU.out.none_short (by rw [HL.out]; exact hlt) (by rw [HG.out k hlt]; exact hc) (by rw [HL.out]; exact hsh)))
          have g2 : decide ((k : Int) + 2 ≥ (s.size : Int)) = true := decide_eq_true (by omega)
          clear hc
          go_wp2
          go_ret2
          exact ⟨by rw [HN.out]; rfl, HS.out.below⟩
        · have g2 : decide ((k : Int) + 2 ≥ (s.size : Int)) = false := decide_eq_false (by omega)
          have hk1 : k + 1 < s.size := by omega
          have hk2 : k + 2 < s.size := by omega
          have c1 := HS.out.cell s[k + 1]
          have c2 := HS.out.cell s[k + 2]
          have hb1 : s[k + 1].toNat < 256 := s[k + 1].toNat_lt
          have hb2 : s[k + 2].toNat < 256 := s[k + 2].toNat_lt
          by_cases hp1 : hexP s[k + 1] = 0
          · have HN := Lib.hid (unesc_none h0 (HU.out.none_bad (by rw [HL.out]; exact hk2) (by rw [HG.out k hlt]; exact hc) (.inl (by rw [HG.out (k + 1) hk1]; exact hp1))))
            have g3 : ((hexP s[k + 1] : Int) == 0) = true := by rw [hp1]; rfl
            clear hc hp1
            go_wp2
            go_ret2
            exact ⟨by rw [HN.out]; rfl, HS.out.below⟩
          · have g3 : ((hexP s[k + 1] : Int) == 0) = false := beq_eq_false_iff_ne.2 (by omega)
            by_cases hp2 : hexP s[k + 2] = 0
            · have HN := Lib.hid (unesc_none h0 (HU.out.none_bad (by rw [HL.out]; exact hk2) (by rw [HG.out k hlt]; exact hc) (.inr (by rw [HG.out (k + 2) hk2]; exact hp2))))
              have g4 : ((hexP s[k + 2] : Int) == 0) = true := by rw [hp2]; rfl
              clear hc hp2 hp1
              go_wp2
              go_ret2
              exact ⟨by rw [HN.out]; rfl, HS.out.below⟩
            · have g4 : ((hexP s[k + 2] : Int) == 0) = false := beq_eq_false_iff_ne.2 (by omega)
              have hU2 := HU.out.hex (by rw [HL.out]; exact hk2) (by rw [HG.out k hlt]; exact hc) (by rw [HG.out (k + 1) hk1, HG.out (k + 2) hk2]; omega)
              rw [HG.out (k + 1) hk1, HG.out (k + 2) hk2] at hU2
              have HU2 := Lib.hid hU2
              have l1 := hexP_le s[k + 1]
              have l2 := hexP_le s[k + 2]
              have hor : bits .or .u8 (((hexP s[k + 1] : Int) - 1) * 16) ((hexP s[k + 2] : Int) - 1) = ((hexC s[k + 1] s[k + 2]).toNat : Int) := by
                rw [or_hex _ _ (by omega) l1 (by omega) l2]
                unfold hexC
                rw [UInt8.toNat_ofNat_of_lt' (by simp [UInt8.size]; omega)]
              have hTl : T < wr.heap.size := lt_of_block HS.out.table
              have hnews : ∀ W1 : World, (wr.alloc (.cells #[.int .u8 ((hexC s[k + 1] s[k + 2]).toNat : Int)] 5)).drew = W1 → W1.heap[wr.heap.size]? = some (.cells (nums .u8 [((hexC s[k + 1] s[k + 2]).toNat : Int)]).toArray 5 (0, 0)) ∧ W1.ownsRow (T + 1) 5 1 (.slice A5 n5 c5) (bytesI acc).length (nums .u8 (bytesI acc)) ∧ T + 1 ≤ W1.heap.size ∧ wr.grownBy W1 (Value.slice A5 n5 c5).ownBlock := by
                rintro W1 rfl
                exact ⟨heap_alloc_new wr _, HS.out.own.alloc _, by show T + 1 ≤ (wr.alloc _).heap.size; simp; omega, let g := World.grownBy_alloc wr (.cells #[.int .u8 ((hexC s[k + 1] s[k + 2]).toNat : Int)] 5) (Value.slice A5 n5 c5).ownBlock; ⟨g.os, g.tape, g.output, g.size, g.block⟩⟩
              have HN := Lib.hid hnews
              clear hnews
              clear hU2 hc
              go_wp2_with fail
              have j1 : (0 ≤ (k : Int) + 1 ∧ (k : Int) + 1 < (s.size : Int)) := by omega
              have j2 : (0 ≤ (k : Int) + 2 ∧ (k : Int) + 2 < (s.size : Int)) := by omega
              have z1 : (s[k + 1].toNat : Int) < 256 := by omega
              have z2 : (s[k + 2].toNat : Int) < 256 := by omega
              have m1 : ((k : Int) + 1).toNat = k + 1 := by omega
              have m2 : ((k : Int) + 2).toNat = k + 2 := by omega
              have x1 : IntKind.u8.wrap ((hexP s[k + 1] : Int) - 1) = (hexP s[k + 1] : Int) - 1 := by simp only [IntKind.wrap, IntKind.signed, IntKind.bits]; simp; omega
              have x2 : IntKind.u8.wrap ((hexP s[k + 2] : Int) - 1) = (hexP s[k + 2] : Int) - 1 := by clear x1; simp only [IntKind.wrap, IntKind.signed, IntKind.bits]; simp; omega
              have x3 : IntKind.u8.wrap (((hexP s[k + 1] : Int) - 1) * 16) = ((hexP s[k + 1] : Int) - 1) * 16 := by clear x1 x2; simp only [IntKind.wrap, IntKind.signed, IntKind.bits]; simp; omega
              have hl2 : ((bytesI acc).length + 1) * 1 ≤ 140737488355328 := by omega
              obtain ⟨e1, e2⟩ : wrap64 ((k : Int) + 1) = (k : Int) + 1 ∧ wrap64 ((k : Int) + 2) = (k : Int) + 2 := by unfold wrap64; omega
              refine start_ (n := 20) (S := fun w' => w'.cell? ⟨T, s[k + 1].toNat, none⟩ = some (.int .u8 (hexP s[k + 1] : Int)) ∧ w'.cell? ⟨T, s[k + 2].toNat, none⟩ = some (.int .u8 (hexP s[k + 2] : Int))) (ds := [18]) #[false, false, false, false, false, false, false, false, false, false, false, false, false, false, false, false, false, false, false, false] (by kernel_rfl) rfl rfl ⟨by go_simp, by go_simp⟩ (fun hHeld => ?_)
              refine pure_ (i := 0) (N := some 50) (v := ?_) (a' := ?_) #[true, false, false, false, false, false, false, false, false, false, false, false, false, false, false, false, false, false, false, false] rfl rfl (by kernel_rfl) (fun _ _ _ h => h) (Or.inl ⟨by rfl, ?_⟩) ?_ ?_
              rotate_left
              · intro w'
                go_simp
                with_reducible rfl
              rotate_left
              · simp only [Act.put, List.setIfInBounds_toArray, List.set_cons_zero, List.set_cons_succ, i64_w, i32_w]
                rfl
              refine pure_ (i := 1) (N := some 51) (v := ?_) (a' := ?_) #[true, true, false, false, false, false, false, false, false, false, false, false, false, false, false, false, false, false, false, false] rfl rfl (by kernel_rfl) (fun _ _ _ h => h) (Or.inl ⟨by rfl, ?_⟩) ?_ ?_
              rotate_left
              · intro w'
                go_simp
                with_reducible rfl
              rotate_left
              · simp only [Act.put, List.setIfInBounds_toArray, List.set_cons_zero, List.set_cons_succ, i64_w, i32_w]
                rfl
              refine pure_ (i := 2) (N := some 52) (v := ?_) (a' := ?_) #[true, true, true, false, false, false, false, false, false, false, false, false, false, false, false, false, false, false, false, false] rfl rfl (by kernel_rfl) (fun _ _ _ h => h) (Or.inl ⟨by rfl, ?_⟩) ?_ ?_
              rotate_left
              · intro w'
                go_simp
                with_reducible rfl
              rotate_left
              · simp only [Act.put, List.setIfInBounds_toArray, List.set_cons_zero, List.set_cons_succ, i64_w, i32_w]
                rfl
              refine pure_ (i := 3) (N := some 53) (v := ?_) (a' := ?_) #[true, true, true, true, false, false, false, false, false, false, false, false, false, false, false, false, false, false, false, false] rfl rfl (by kernel_rfl) (fun _ _ _ h => h) (Or.inl ⟨by rfl, ?_⟩) ?_ ?_
              rotate_left
              · intro w'
                go_simp
                with_reducible rfl
              rotate_left
              · simp only [Act.put, List.setIfInBounds_toArray, List.set_cons_zero, List.set_cons_succ, i64_w, i32_w]
                rfl
              refine pure_ (i := 9) (N := some 59) (v := ?_) (a' := ?_) #[true, true, true, true, false, false, false, false, false, true, false, false, false, false, false, false, false, false, false, false] rfl rfl (by kernel_rfl) (fun _ _ _ h => h) (Or.inl ⟨by rfl, ?_⟩) ?_ ?_
              rotate_left
              · intro w'
                go_simp
                with_reducible rfl
              rotate_left
              · simp only [Act.put, List.setIfInBounds_toArray, List.set_cons_zero, List.set_cons_succ, i64_w, i32_w]
                rfl
              refine pure_ (i := 10) (N := some 60) (v := ?_) (a' := ?_) #[true, true, true, true, false, false, false, false, false, true, true, false, false, false, false, false, false, false, false, false] rfl rfl (by kernel_rfl) (fun _ _ _ h => h) (Or.inl ⟨by rfl, ?_⟩) ?_ ?_
              rotate_left
              · intro w'
                go_simp
                with_reducible rfl
              rotate_left
              · simp only [Act.put, List.setIfInBounds_toArray, List.set_cons_zero, List.set_cons_succ, i64_w, i32_w]
                rfl
              refine pure_ (i := 11) (N := some 61) (v := ?_) (a' := ?_) #[true, true, true, true, false, false, false, false, false, true, true, true, false, false, false, false, false, false, false, false] rfl rfl (by kernel_rfl) (fun _ _ _ h => h) (Or.inl ⟨by rfl, ?_⟩) ?_ ?_
              rotate_left
              · intro w'
                go_simp
                with_reducible rfl
              rotate_left
              · simp only [Act.put, List.setIfInBounds_toArray, List.set_cons_zero, List.set_cons_succ, i64_w, i32_w]
                rfl
              refine take_ (i := 4) (N := some 54) (v := ?_) (a' := ?_) #[true, true, true, true, true, false, false, false, false, true, true, true, false, false, false, false, false, false, false, false] rfl rfl (by kernel_rfl) (fun _ _ _ h => h) (Or.inl ⟨by rfl, ?_⟩) hHeld ?_ ?_
              rotate_left
              · rintro w' ⟨s0, s1⟩
                go_simp
                with_reducible rfl
              rotate_left
              · simp only [Act.put, List.setIfInBounds_toArray, List.set_cons_zero, List.set_cons_succ, i64_w, i32_w]
                rfl
              refine pure_ (i := 5) (N := some 55) (v := ?_) (a' := ?_) #[true, true, true, true, true, true, false, false, false, true, true, true, false, false, false, false, false, false, false, false] rfl rfl (by kernel_rfl) (fun _ _ _ h => h) (Or.inl ⟨by rfl, ?_⟩) ?_ ?_
              rotate_left
              · intro w'
                go_simp
                with_reducible rfl
              rotate_left
              · simp only [Act.put, List.setIfInBounds_toArray, List.set_cons_zero, List.set_cons_succ, i64_w, i32_w]
                rfl
              refine take_ (i := 6) (N := some 56) (v := ?_) (a' := ?_) #[true, true, true, true, true, true, true, false, false, true, true, true, false, false, false, false, false, false, false, false] rfl rfl (by kernel_rfl) (fun _ _ _ h => h) (Or.inl ⟨by rfl, ?_⟩) hHeld ?_ ?_
              rotate_left
              · rintro w' ⟨s0, s1⟩
                go_simp
                with_reducible rfl
              rotate_left
              · simp only [Act.put, List.setIfInBounds_toArray, List.set_cons_zero, List.set_cons_succ, i64_w, i32_w]
                rfl
              refine pure_ (i := 7) (N := some 57) (v := ?_) (a' := ?_) #[true, true, true, true, true, true, true, true, false, true, true, true, false, false, false, false, false, false, false, false] rfl rfl (by kernel_rfl) (fun _ _ _ h => h) (Or.inl ⟨by rfl, ?_⟩) ?_ ?_
              rotate_left
              · intro w'
                go_simp
                with_reducible rfl
              rotate_left
              · simp only [Act.put, List.setIfInBounds_toArray, List.set_cons_zero, List.set_cons_succ, i64_w, i32_w]
                rfl
              refine pure_ (i := 8) (N := some 58) (v := ?_) (a' := ?_) #[true, true, true, true, true, true, true, true, true, true, true, true, false, false, false, false, false, false, false, false] rfl rfl (by kernel_rfl) (fun _ _ _ h => h) (Or.inl ⟨by rfl, ?_⟩) ?_ ?_
              rotate_left
              · intro w'
                go_simp
                with_reducible rfl
              rotate_left
              · simp only [Act.put, List.setIfInBounds_toArray, List.set_cons_zero, List.set_cons_succ, i64_w, i32_w]
                rfl
              refine take_ (i := 12) (N := some 62) (v := ?_) (a' := ?_) #[true, true, true, true, true, true, true, true, true, true, true, true, true, false, false, false, false, false, false, false] rfl rfl (by kernel_rfl) (fun _ _ _ h => h) (Or.inl ⟨by rfl, ?_⟩) hHeld ?_ ?_
              rotate_left
              · rintro w' ⟨s0, s1⟩
                go_simp
                with_reducible rfl
              rotate_left
              · simp only [Act.put, List.setIfInBounds_toArray, List.set_cons_zero, List.set_cons_succ, i64_w, i32_w]
                rfl
              refine pure_ (i := 13) (N := some 63) (v := ?_) (a' := ?_) #[true, true, true, true, true, true, true, true, true, true, true, true, true, true, false, false, false, false, false, false] rfl rfl (by kernel_rfl) (fun _ _ _ h => h) (Or.inl ⟨by rfl, ?_⟩) ?_ ?_
              rotate_left
              · intro w'
                go_simp
                with_reducible rfl
              rotate_left
              · simp only [Act.put, List.setIfInBounds_toArray, List.set_cons_zero, List.set_cons_succ, i64_w, i32_w]
                rfl
              refine take_ (i := 14) (N := some 64) (v := ?_) (a' := ?_) #[true, true, true, true, true, true, true, true, true, true, true, true, true, true, true, false, false, false, false, false] rfl rfl (by kernel_rfl) (fun _ _ _ h => h) (Or.inl ⟨by rfl, ?_⟩) hHeld ?_ ?_
              rotate_left
              · rintro w' ⟨s0, s1⟩
                go_simp
                with_reducible rfl
              rotate_left
              · simp only [Act.put, List.setIfInBounds_toArray, List.set_cons_zero, List.set_cons_succ, i64_w, i32_w]
                rfl
              refine pure_ (i := 15) (N := some 65) (v := ?_) (a' := ?_) #[true, true, true, true, true, true, true, true, true, true, true, true, true, true, true, true, false, false, false, false] rfl rfl (by kernel_rfl) (fun _ _ _ h => h) (Or.inl ⟨by rfl, ?_⟩) ?_ ?_
              rotate_left
              · intro w'
                go_simp
                with_reducible rfl
              rotate_left
              · simp only [Act.put, List.setIfInBounds_toArray, List.set_cons_zero, List.set_cons_succ, i64_w, i32_w]
                rfl
              refine pure_ (i := 16) (N := some 66) (v := ?_) (a' := ?_) #[true, true, true, true, true, true, true, true, true, true, true, true, true, true, true, true, true, false, false, false] rfl rfl (by kernel_rfl) (fun _ _ _ h => h) (Or.inl ⟨by rfl, ?_⟩) ?_ ?_
              rotate_left
              · intro w'
                go_simp
                with_reducible rfl
              rotate_left
              · simp only [Act.put, List.setIfInBounds_toArray, List.set_cons_zero, List.set_cons_succ, i64_w, i32_w]
                rfl
              refine one_ (i := 17) (N := some 67) #[true, true, true, true, true, true, true, true, true, true, true, true, true, true, true, true, true, true, false, false] rfl rfl (by kernel_rfl) (by decide) (fun K hK => ?_)
              refine value_ (w1 := ?_) (v := ?_) (by rfl) rfl ?_ ?_
              rotate_left 2
              · go_simp
                constructor
                · rfl
                · rfl
              refine hK.out _ _ ⟨by go_simp, by go_simp⟩ (fun hHeld => ?_)
              clear hK K
              refine norm_ (a' := ?_) ?_ ?_
              rotate_left
              · show Act.put _ (some 67) _ = _
                simp only [Act.put, List.setIfInBounds_toArray, List.set_cons_zero, List.set_cons_succ, i64_w, i32_w]
                rfl
              refine last_ (i := 18) (N := some 68) #[true, true, true, true, true, true, true, true, true, true, true, true, true, true, true, true, true, true, true, false] rfl rfl (by kernel_rfl) (by decide) (fun K hK => ?_)
              obtain ⟨hg1, hg2, hg3, hg4⟩ := HN.out _ rfl
              refine step_append_news _ (T + 1) (by rfl) (.tmp 50) (.tmp 67) 56 5 .u8 1 rfl Try.underlying56 info5 (by decide) (.slice A5 n5 c5) (bytesI acc) [((hexC s[k + 1] s[k + 2]).toNat : Int)] wr.heap.size 1 (0, 0) rfl rfl hg1 hg2 hg3 hl2 ?_
              intro v1 w3 ho hg
              have HS3 := Lib.hid (HS.out.grow ho (hg4.trans hg))
              clear ho hg hg1 hg2 hg3 hg4
              refine hK.out _ _ ?_
              clear hK K
              refine norm_ (a' := ?_) ?_ ?_
              rotate_left
              · show Act.put _ (some 68) _ = _
                simp only [Act.put, List.setIfInBounds_toArray, List.set_cons_zero, List.set_cons_succ, i64_w, i32_w]
                rfl
              refine pure_ (i := 19) (N := some 5) (v := ?_) (a' := ?_) #[true, true, true, true, true, true, true, true, true, true, true, true, true, true, true, true, true, true, true, true] rfl rfl (by kernel_rfl) (fun _ _ _ h => h) (Or.inl ⟨by rfl, ?_⟩) ?_ ?_
              rotate_left
              · intro w'
                go_simp
                with_reducible rfl
              rotate_left
              · simp only [Act.put, List.setIfInBounds_toArray, List.set_cons_zero, List.set_cons_succ, i64_w, i32_w]
                rfl
              refine done_ (by kernel_rfl) ?_
              clear e1 e2 x1 x2 x3
              go_wp2
              go_roundw
              case rel => exact ⟨k + 2 + 1, acc ++ [hexC s[k + 1] s[k + 2]], by go_num, by omega, by simp; omega, HU2, HS3⟩
              case measure => simp [intOf]; omega
      · have g1 : ((s[k].toNat : Int) != 37) = true := by
          rw [bne_iff_ne]
          intro e
          exact hc (UInt8.toNat.inj (by show s[k].toNat = 37; omega))
        have hU2 := HU.out.plain (by rw [HL.out]; exact hlt) hc
        rw [HG.out k hlt] at hU2
        have HU2 := Lib.hid hU2
        clear hU2 hc
        go_wp2_with (at_builtin; refine print_append_num (w0 := wr) (T + 1) rfl _ _ 56 5 .u8 1 rfl Try.underlying56 info5 (by omega) (.slice A5 n5 c5) (bytesI acc) (s[k].toNat : Int) rfl rfl HS.out.own (Below.refl _ _) (by have := lt_of_block HS.out.table; omega) (by omega) ?_; intro v1 w3 ho hb hg hat; have HS3 := Lib.hid (HS.out.grow ho hg); clear ho hb hg hat)
        go_roundw
        case rel => exact ⟨k + 1, acc ++ [s[k]], by go_num, by omega, by simp; omega, HU2, HS3⟩
        case measure => simp [intOf]; omega
    · obtain rfl : k = s.size := by omega
      have hd := HU.out
      rw [← HL.out] at hd
      have hcase := unesc_some h0 hd.done
      have hcv := own_string (P := Try.prog) Try.underlying56 Try.underlying5 Try.underlying9 HS.out.own
      rw [strOf_bytesI] at hcv
      have hz : (⟨acc.toArray⟩ : ByteArray).size = acc.length := by show acc.toArray.size = _; simp
      have HZ := Lib.hid hz
      have HC := Lib.hid hcase
      have HB := Lib.hid HS.out.below
      clear hd hcase hz
      generalize (⟨acc.toArray⟩ : ByteArray) = t at hcv HC HZ
      go_wp2_with fail
      refine (esc_calls t _ (by rw [HZ.out]; omega)).mono ?_
      rintro e w3 ⟨rfl, hb3⟩
      have HB3 := Lib.hid (HB.out.trans (hb3.mono HB.out.size))
      clear hb3 hcv
      by_cases heq : escB t = s
      · have HE := Lib.hid (HC.out.trans (if_pos heq))
        have g5 := beq_yes heq
        clear heq
        go_wp2
        go_ret2
        exact ⟨by rw [HE.out]; rfl, HB3.out⟩
      · have HE := Lib.hid (HC.out.trans (if_neg heq))
        have g5 := beq_no heq
        clear heq
        go_wp2
        go_ret2
        exact ⟨by rw [HE.out]; rfl, HB3.out⟩

end Go.Proofs.Ytnpmkaklkonofaa.Txt
