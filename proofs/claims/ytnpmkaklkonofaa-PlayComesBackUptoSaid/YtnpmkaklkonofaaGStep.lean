/- Plain: the table of the steps' words: of each kind its word, and what stands behind it. -/
import Derived.Test.YtnpmkaklkonofaaGBase
import Derived.Laws.Tables
import Derived.Laws.CopyOwn
import Derived.Test.YtnpmkaklkonofaaGHand
import Derived.Test.YtnpmkaklkonofaaQx0
import Derived.Test.YtnpmkaklkonofaaQx8
import Derived.Lib.OthersKept
import Derived.Test.YtnpmkaklkonofaaWMore
set_option linter.unusedVariables false
set_option linter.unusedSimpArgs false
namespace Go.Proofs.Ytnpmkaklkonofaa.Txt

def shapeT : List (List UInt8 × List UInt8) := [
  ([], []),
  ([99, 114, 101, 97, 116, 101], [111]),
  ([111, 112, 101, 110], []),
  ([97, 112, 112, 101, 110, 100], [83]),
  ([115, 105, 122, 101], []),
  ([108, 101, 97, 102], [110]),
  ([108, 101, 97, 118, 101, 115], [110, 110]),
  ([114, 111, 111, 116], [110]),
  ([112, 114, 111, 118, 101], [110, 110, 110, 110, 78]),
  ([116, 105, 108, 101], [115]),
  ([115, 121, 110, 99], []),
  ([99, 104, 101, 99, 107, 112, 111, 105, 110, 116], [83]),
  ([98, 101, 103, 105, 110], [111]),
  ([109, 111, 118, 101], [110]),
  ([99, 97, 110, 99, 101, 108], []),
  ([115, 101, 101, 110], []),
  ([117, 115, 97, 103, 101], []),
  ([97, 114, 109], [110]),
  ([99, 114, 97, 115, 104], [115]),
  ([99, 104, 101, 99, 107], []),
  ([114, 101, 112, 97, 105, 114], []),
  ([115, 117, 98, 109, 105, 116], [110, 115, 115]),
  ([112, 108, 97, 99, 101], [110, 110]),
  ([102, 105, 110, 100], [115]),
  ([108, 97, 116, 101], [110]),
  ([119, 105, 116, 110, 101, 115, 115], []),
  ([119, 97, 116, 99, 104], []),
  ([105, 109, 97, 103, 101], []),
  ([115, 97, 118, 101], []),
  ([114, 101, 115, 116, 111, 114, 101], []),
  ([97, 115, 107], [110, 115, 115]),
  ([109, 105, 114, 114, 111, 114], []),
  ([115, 101, 114, 118, 101], [110]),
  ([109, 97, 112], [110]),
  ([108, 111, 111, 107], [110, 115])]

end Go.Proofs.Ytnpmkaklkonofaa.Txt


/- play.shapes: the table of the steps' words. -/
namespace Go.Proofs.Ytnpmkaklkonofaa.Txt
open Go.RowKit Go.Proofs.YtnpmkaklkonofaaW.PrintWords Go.Proofs.YtnpmkaklkonofaaW.PrintLast

theorem infoSh : (Try.prog.info? 61).map (·.size) = some 70 := by kernel_rfl

def strV (l : List UInt8) : Value := .string ⟨l.toArray⟩
/-- The table as a value's cells. -/
def shapeV : Array Value := (shapeT.flatMap fun p => [strV p.1, strV p.2]).toArray
theorem shapeV_size : shapeV.size = 70 := by kernel_rfl
theorem shapeV_one : shapeV.all (·.oneCell') = true := by kernel_rfl
theorem zeroSh : (Try.zeroCells61).size = 70 := by kernel_rfl

theorem wpList_build_as {P : Program} {ops : Array Oper} {rest : List Oper} {o : Oper} {a : Act} {w : World} {Q : Exit → Act → World → Prop} (hg : o.guard = none) (t : TypeId) (cs : Array Value) (parts : Array (Nat × Operand)) (ho : o.op = .build t parts)
    (hf : P.built t (parts.map fun (i, x) => (i, a.eval x)).toList = some cs)
    (h : wpList P ops Q rest (a.put o.dst (.agg cs)) w) : wpList P ops Q (o :: rest) a w :=
  wpList_build hg t parts ho (by rw [hf]; rfl) (by rw [hf]; exact h)

theorem shapeV_store (w : World) : (storeCells ⟨w.heap.size, 0, none⟩ shapeV.toList).run Try.prog (w.alloc (.cells Try.zeroCells61 61)) = .ok () ((w.alloc (.cells Try.zeroCells61 61)).setRow w.heap.size shapeV) := by
  have h := run_storeCells_from (P := Try.prog) w.heap.size 61 shapeV.toList 0 _ (w.alloc (.cells Try.zeroCells61 61)) (heap_alloc_new w _) (by rw [Array.length_toList, shapeV_size, zeroSh]) (fun v hv => (Array.all_eq_true_iff_forall_mem.1 shapeV_one) v (by simpa using hv))
  simpa using h

set_option maxHeartbeats 400000 in
set_option maxRecDepth 100000 in
theorem shapes_calls (w : World) :
    Calls Try.prog 26 #[] w fun e w' => e = .returned (.agg shapeV) ∧ Below w.heap.size w w' := by
  have hsz := shapeV_size
  have hst := shapeV_store w
  go_enter Try.func26, Try.ntmps26
  go_wp2_with (first | (refine wpList_build_as rfl 61 shapeV _ rfl (by kernel_rfl) ?_) | (refine wpList_build rfl 60 _ rfl (by kernel_rfl) ?_))
  exact bodyPost_ret (v := .agg shapeV) (results_cell_row rfl _ _ w.heap.size 61 shapeV (0, 0) _ rfl (setRow_heap _ _ _ _ _ _ (heap_alloc_new w _)) Try.underlying61 rfl (by rw [shapeV_size]; exact infoSh)) rfl ⟨rfl, below_setRow ((Below.refl _ _).alloc (Nat.le_refl _) _) (Nat.le_refl _) _⟩

end Go.Proofs.Ytnpmkaklkonofaa.Txt


/- The table of shapes, read. -/
namespace Go.Proofs.Ytnpmkaklkonofaa.Txt
open Go.RowKit Go.Proofs.YtnpmkaklkonofaaW.PrintWords Go.Proofs.YtnpmkaklkonofaaW.PrintLast

theorem info9 : (Try.prog.info? 9).map (fun i => (i.zero, i.size, i.bytes)) = some (some (.string ⟨#[]⟩), 1, 16) := by kernel_rfl

/-- The letters of a shape. -/
theorem wants_ok : ∀ k : Nat, k < 35 → (∀ c ∈ (shapeT.getD k ([], [])).2, c = 110 ∨ c = 115 ∨ c = 111 ∨ c = 78 ∨ c = 83) ∧ (shapeT.getD k ([], [])).2.length ≤ 5 := by
  have key : ∀ m : Fin 35, (∀ c ∈ (shapeT.getD m.val ([], [])).2, c = 110 ∨ c = 115 ∨ c = 111 ∨ c = 78 ∨ c = 83) ∧ (shapeT.getD m.val ([], [])).2.length ≤ 5 := by decide +kernel
  exact fun k hk => key ⟨k, hk⟩

theorem shape_at : ∀ k : Nat, k < 35 → ∀ W : World, (Instr.index 61 (.agg shapeV) (.int .i64 (k : Int))).run Try.prog W = .ok (.agg #[strV (shapeT.getD k ([], [])).1, strV (shapeT.getD k ([], [])).2]) W
  | 0, _, W => by as_aux_lemma => kernel_rfl
  | 1, _, W => by as_aux_lemma => kernel_rfl
  | 2, _, W => by as_aux_lemma => kernel_rfl
  | 3, _, W => by as_aux_lemma => kernel_rfl
  | 4, _, W => by as_aux_lemma => kernel_rfl
  | 5, _, W => by as_aux_lemma => kernel_rfl
  | 6, _, W => by as_aux_lemma => kernel_rfl
  | 7, _, W => by as_aux_lemma => kernel_rfl
  | 8, _, W => by as_aux_lemma => kernel_rfl
  | 9, _, W => by as_aux_lemma => kernel_rfl
  | 10, _, W => by as_aux_lemma => kernel_rfl
  | 11, _, W => by as_aux_lemma => kernel_rfl
  | 12, _, W => by as_aux_lemma => kernel_rfl
  | 13, _, W => by as_aux_lemma => kernel_rfl
  | 14, _, W => by as_aux_lemma => kernel_rfl
  | 15, _, W => by as_aux_lemma => kernel_rfl
  | 16, _, W => by as_aux_lemma => kernel_rfl
  | 17, _, W => by as_aux_lemma => kernel_rfl
  | 18, _, W => by as_aux_lemma => kernel_rfl
  | 19, _, W => by as_aux_lemma => kernel_rfl
  | 20, _, W => by as_aux_lemma => kernel_rfl
  | 21, _, W => by as_aux_lemma => kernel_rfl
  | 22, _, W => by as_aux_lemma => kernel_rfl
  | 23, _, W => by as_aux_lemma => kernel_rfl
  | 24, _, W => by as_aux_lemma => kernel_rfl
  | 25, _, W => by as_aux_lemma => kernel_rfl
  | 26, _, W => by as_aux_lemma => kernel_rfl
  | 27, _, W => by as_aux_lemma => kernel_rfl
  | 28, _, W => by as_aux_lemma => kernel_rfl
  | 29, _, W => by as_aux_lemma => kernel_rfl
  | 30, _, W => by as_aux_lemma => kernel_rfl
  | 31, _, W => by as_aux_lemma => kernel_rfl
  | 32, _, W => by as_aux_lemma => kernel_rfl
  | 33, _, W => by as_aux_lemma => kernel_rfl
  | 34, _, W => by as_aux_lemma => kernel_rfl
  | k + 35, h, _ => absurd h (by omega)

theorem drop_take_succ {α : Type} (l : List α) (d : α) (a j : Nat) (ha : a ≤ j) (hj : j < l.length) : (l.drop a).take (j + 1 - a) = (l.drop a).take (j - a) ++ [l.getD j d] := by
  rw [show j + 1 - a = (j - a) + 1 by omega, List.take_succ_eq_append_getElem (by rw [List.length_drop]; omega), List.getElem_drop, List.getD_eq_getElem?_getD, List.getElem?_eq_getElem hj]
  congr 2
  simp only [Option.getD_some]
  congr 1
  omega

end Go.Proofs.Ytnpmkaklkonofaa.Txt


/- Plain: the kind of a word, the count of a shape, what a step's words say. -/
namespace Go.Proofs.Ytnpmkaklkonofaa.Txt

/-- The first kind from k on, of n, whose word this is; 0: none. -/
def namedFrom (s : List UInt8) : Nat → Nat → Nat
  | 0, _ => 0
  | n + 1, k => if 0 < k ∧ (shapeT.getD k ([], [])).1 = s then k else namedFrom s n (k + 1)
def namedL (s : List UInt8) : Nat := namedFrom s 35 0
theorem namedFrom_lt (s : List UInt8) : ∀ n k, namedFrom s n k < n + k + 1
  | 0, k => by unfold namedFrom; omega
  | n + 1, k => by
    unfold namedFrom
    have := namedFrom_lt s n (k + 1)
    split <;> omega
theorem namedL_le (s : List UInt8) : namedL s ≤ 35 := by have := namedFrom_lt s 35 0; unfold namedL; omega
theorem namedFrom_spec (s : List UInt8) : ∀ n k, namedFrom s n k = 0 ∨ (k ≤ namedFrom s n k ∧ namedFrom s n k < n + k ∧ 0 < namedFrom s n k ∧ (shapeT.getD (namedFrom s n k) ([], [])).1 = s)
  | 0, k => .inl rfl
  | n + 1, k => by
    unfold namedFrom
    split
    · rename_i h; exact .inr ⟨Nat.le_refl _, by omega, h.1, h.2⟩
    · rcases namedFrom_spec s n (k + 1) with h | ⟨h1, h2, h3, h4⟩
      · exact .inl h
      · exact .inr ⟨by omega, by omega, h3, h4⟩
theorem namedL_lt (s : List UInt8) : namedL s < 35 := by rcases namedFrom_spec s 35 0 with h | ⟨_, h, _⟩ <;> unfold namedL <;> omega

/-- Can a shape have so many words? -/
def countedL : List UInt8 → Int → Bool
  | [], n => n == 0
  | c :: r, n => if c = 111 then countedL r (n - 6) else if c = 78 ∨ c = 83 then decide (0 ≤ n) else countedL r (n - 1)

/-- What the words have said so far: numbers, texts, the numbers of options. -/
structure StpS where
  N : List Int
  S : List ByteArray
  O : List Int
def takeS (c : UInt8) (w : ByteArray) (x : StpS) : StpS × Int :=
  if c = 115 ∨ c = 83 then (⟨x.N, x.S ++ [w], x.O⟩, 0)
  else if c = 111 then (⟨x.N, x.S, x.O ++ [(unDec w).1]⟩, (unDec w).2)
  else (⟨x.N ++ [(unDec w).1], x.S, x.O⟩, (unDec w).2)
/-- Word i's letter. -/
def letterAt (wants : List UInt8) (i : Nat) : UInt8 := wants.getD (min i (wants.length - 1)) 0
/-- The words from number i on. -/
def eachS (wants : List UInt8) : Nat → List ByteArray → StpS → StpS × Int
  | _, [], x => (x, 0)
  | i, w :: r, x => if (takeS (letterAt wants i) w x).2 = 0 then eachS wants (i + 1) r (takeS (letterAt wants i) w x).1 else takeS (letterAt wants i) w x
def wantsOf (k : Nat) : List UInt8 := if (shapeT.getD k ([], [])).2 = [111] then [111, 111, 111, 111, 111, 111] else (shapeT.getD k ([], [])).2

end Go.Proofs.Ytnpmkaklkonofaa.Txt


/- play.named, (play.shape).counted. -/
namespace Go.Proofs.Ytnpmkaklkonofaa.Txt
open Go.RowKit Go.Proofs.YtnpmkaklkonofaaW.PrintWords Go.Proofs.YtnpmkaklkonofaaW.PrintLast Go.Proofs.Ytnpmkaklkonofaa.Hand Go.Proofs.Ytnpmkaklkonofaa.Q

set_option maxHeartbeats 1000000 in
set_option maxRecDepth 100000 in
theorem named_calls (s : ByteArray) (w : World) :
    Calls Try.prog 68 #[.string s] w fun e w' => e = .returned (.int .i64 (namedL s.data.toList : Int)) ∧ Below w.heap.size w w' := by
  go_enter Try.func68, Try.ntmps68
  go_wp2_with fail
  refine (shapes_calls _).mono ?_
  rintro e w1 ⟨rfl, hb⟩
  have HB := Lib.hid hb
  clear hb
  go_wp2_with fail
  go_loopg [6] 35 (fun gk v6 wr => ∃ k : Nat, v6 = .int .i64 k ∧ gk + k = 35 ∧ Hid (namedL s.data.toList = namedFrom s.data.toList gk k) ∧ Hid (Below w.heap.size w wr))
  case atStart => exact ⟨0, rfl, rfl, rfl, HB⟩
  case round =>
    obtain ⟨k, rfl, hgk, HN, HW⟩ := hrel
    by_cases hlt : k < 35
    · obtain ⟨gk', rfl⟩ : ∃ m, gk = m + 1 := ⟨gk - 1, by omega⟩
      have hat := shape_at k hlt
      obtain ⟨wd, hwd⟩ : ∃ wd, wd = (⟨(shapeT.getD k ([], [])).1.toArray⟩ : ByteArray) := ⟨_, rfl⟩
      obtain ⟨wt, hwt⟩ : ∃ wt, wt = (⟨(shapeT.getD k ([], [])).2.toArray⟩ : ByteArray) := ⟨_, rfl⟩
      unfold strV at hat
      rw [← hwd, ← hwt] at hat
      have HWD := Lib.hid hwd
      have HB1 := Lib.hid (HW.out.alloc (Below.size HW.out) (.cells #[.string wd, .string wt] 60))
      clear hwd hwt
      by_cases hk : 0 < k ∧ (shapeT.getD k ([], [])).1 = s.data.toList
      · have h0 := hk.1
        have hq : (wd.toList == s.toList) = true := by rw [beq_iff_eq, ByteArray.toList_eq, ByteArray.toList_eq, HWD.out]; exact hk.2
        have HE := Lib.hid (show namedL s.data.toList = k by rw [HN.out, namedFrom, if_pos hk])
        clear hk
        go_wp2_with fail
        go_ret
        exact ⟨by rw [HE.out]; rfl, HB1.out⟩
      · have HE := Lib.hid (show namedL s.data.toList = namedFrom s.data.toList gk' (k + 1) by rw [HN.out, namedFrom, if_neg hk])
        by_cases h0 : 0 < k
        · have hq : (wd.toList == s.toList) = false := by rw [beq_eq_false_iff_ne, ByteArray.toList_eq, ByteArray.toList_eq, HWD.out]; exact fun h => hk ⟨h0, h⟩
          clear hk
          go_wp2_with fail
          go_roundg gk'
          case rel => exact ⟨k + 1, by go_num, by omega, HE, HB1.out⟩
          case measure => omega
        · clear hk
          go_wp2_with fail
          go_roundg gk'
          case rel => exact ⟨k + 1, by go_num, by omega, HE, HB1.out⟩
          case measure => omega
    · obtain rfl : k = 35 := by omega
      obtain rfl : gk = 0 := by omega
      go_wp2_with fail
      go_ret
      exact ⟨by rw [HN.out]; rfl, HW.out⟩

/-- The letters of a shape's wants. -/
structure CWorld (I : Nat) (ws : ByteArray) (pos : Nat) (w wr : World) : Prop where
  iter : wr.heap[I]? = some (.stringIter ws pos)
  le : w.heap.size ≤ I
  below : Below w.heap.size w wr
theorem CWorld.next {I : Nat} {ws : ByteArray} {pos : Nat} {w wr : World} (h : CWorld I ws pos w wr) (pos' : Nat) : CWorld I ws pos' w (wr.iterAt I ws pos') :=
  ⟨Lib.iterAt_heap _ _ _ _ _ h.iter, h.le, Lib.below_iterAt h.below h.le _ _⟩

set_option maxHeartbeats 1000000 in
set_option maxRecDepth 100000 in
theorem counted_calls (k : Nat) (hk : k < 35) (n : Int) (hn0 : 0 ≤ n) (hn1 : n ≤ 4611686018427387904) (w : World) :
    Calls Try.prog 69 #[.agg #[strV (shapeT.getD k ([], [])).1, strV (shapeT.getD k ([], [])).2], .int .i64 n] w fun e w' => e = .returned (.bool (countedL (shapeT.getD k ([], [])).2 n)) ∧ Below w.heap.size w w' := by
  obtain ⟨wd, hwd⟩ : ∃ wd, wd = (⟨(shapeT.getD k ([], [])).1.toArray⟩ : ByteArray) := ⟨_, rfl⟩
  obtain ⟨wt, hwt⟩ : ∃ wt, wt = (⟨(shapeT.getD k ([], [])).2.toArray⟩ : ByteArray) := ⟨_, rfl⟩
  unfold strV
  rw [← hwd, ← hwt, show (shapeT.getD k ([], [])).2 = wt.data.toList by rw [hwt]]
  have hwl : wt.size ≤ 5 := by rw [hwt, ← dsize]; exact (wants_ok k hk).2
  have hwc : Hid (∀ i (hi : i < wt.size), wt[i] = 110 ∨ wt[i] = 115 ∨ wt[i] = 111 ∨ wt[i] = 78 ∨ wt[i] = 83) := fun i hi => (wants_ok k hk).1 _ (by
    have : wt.data.toList = (shapeT.getD k ([], [])).2 := by rw [hwt]
    rw [← this]
    exact List.getElem_mem (by rw [dsize]; exact hi))
  clear hwd hwt hk
  go_enter Try.func69, Try.ntmps69
  go_wp2_with fail
  have hst : Hid (CWorld (w.heap.size + 1) wt 0 w ((w.alloc (.cells #[.string wd, .string wt] 60)).iter wt 0)) := by
    refine ⟨?_, by omega, ((Below.refl _ _).alloc (Nat.le_refl _) _).alloc (by simp) _⟩
    have := World.iter_heap (w.alloc (.cells #[.string wd, .string wt] 60)) wt 0
    simpa using this
  generalize w.heap.size + 1 = I at *
  go_loopg [1] wt.size (fun gk v1 wr => ∃ (m : Int) (pos : Nat), v1 = .int .i64 m ∧ gk + pos = wt.size ∧ n - 6 * pos ≤ m ∧ m ≤ n ∧ Hid (countedL wt.data.toList n = countedL (wt.data.toList.drop pos) m) ∧ Hid (CWorld I wt pos w wr))
  case atStart => exact ⟨n, 0, rfl, rfl, by omega, by omega, rfl, hst⟩
  case round =>
    clear hst
    obtain ⟨m, pos, rfl, hgp, hm1, hm2, HC, HW⟩ := hrel
    by_cases hlt : pos < wt.size
    · obtain ⟨gk', rfl⟩ : ∃ m, gk = m + 1 := ⟨gk - 1, by omega⟩
      have hnx : ∀ ty, (Instr.next (.pointer (some ⟨I, 0, none⟩)) true ty).run Try.prog wr = .ok (.tuple #[.bool true, .int .i64 pos, .int .i32 ((wt[pos]).toNat : Int)]) (wr.iterAt I wt (pos + 1)) := fun ty => Lib.run_next_ascii_at wr I wt pos ty HW.out.iter hlt (by rcases hwc.out pos hlt with h | h | h | h | h <;> rw [h] <;> decide)
      have hWn := Lib.hid (HW.out.next (pos + 1))
      have hdr : wt.data.toList.drop pos = wt[pos] :: wt.data.toList.drop (pos + 1) := by
        rw [List.drop_eq_getElem_cons (by rw [dsize]; exact hlt)]; rfl
      have HD := Lib.hid (show countedL wt.data.toList n = countedL (wt[pos] :: wt.data.toList.drop (pos + 1)) m by rw [← hdr]; exact HC.out)
      generalize hW1 : wr.iterAt I wt (pos + 1) = W1 at *
      have hpos : (pos : Int) ≤ 5 := by omega
      rcases hwc.out pos hlt with hc | hc | hc | hc | hc
      · have HE := Lib.hid (show countedL wt.data.toList n = countedL (wt.data.toList.drop (pos + 1)) (m - 1) by rw [HD.out, hc]; rfl)
        have g1 : ((wt[pos].toNat : Int) == 111) = false := by rw [hc]; rfl
        have g2 : ((wt[pos].toNat : Int) == 78) = false := by rw [hc]; rfl
        have g3 : ((wt[pos].toNat : Int) == 83) = false := by rw [hc]; rfl
        clear HC HD hdr hc hW1 HW
        go_wp2_with fail
        go_roundg gk'
        case rel => exact ⟨m - 1, pos + 1, rfl, by omega, by omega, by omega, HE, hWn⟩
        case measure => omega
      · have HE := Lib.hid (show countedL wt.data.toList n = countedL (wt.data.toList.drop (pos + 1)) (m - 1) by rw [HD.out, hc]; rfl)
        have g1 : ((wt[pos].toNat : Int) == 111) = false := by rw [hc]; rfl
        have g2 : ((wt[pos].toNat : Int) == 78) = false := by rw [hc]; rfl
        have g3 : ((wt[pos].toNat : Int) == 83) = false := by rw [hc]; rfl
        clear HC HD hdr hc hW1 HW
        go_wp2_with fail
        go_roundg gk'
        case rel => exact ⟨m - 1, pos + 1, rfl, by omega, by omega, by omega, HE, hWn⟩
        case measure => omega
      · have HE := Lib.hid (show countedL wt.data.toList n = countedL (wt.data.toList.drop (pos + 1)) (m - 6) by rw [HD.out, hc]; rfl)
        have g1 : ((wt[pos].toNat : Int) == 111) = true := by rw [hc]; rfl
        clear HC HD hdr hc hW1 HW
        go_wp2_with fail
        go_roundg gk'
        case rel => exact ⟨m - 6, pos + 1, rfl, by omega, by omega, by omega, HE, hWn⟩
        case measure => omega
      · have HE := Lib.hid (show countedL wt.data.toList n = decide (0 ≤ m) by rw [HD.out, hc]; rfl)
        have g1 : ((wt[pos].toNat : Int) == 111) = false := by rw [hc]; rfl
        have g2 : ((wt[pos].toNat : Int) == 78) = true := by rw [hc]; rfl
        clear HC HD hdr hc hW1 HW
        go_wp2_with fail
        go_ret
        exact ⟨by rw [HE.out]; rfl, hWn.out.below⟩
      · have HE := Lib.hid (show countedL wt.data.toList n = decide (0 ≤ m) by rw [HD.out, hc]; rfl)
        have g1 : ((wt[pos].toNat : Int) == 111) = false := by rw [hc]; rfl
        have g2 : ((wt[pos].toNat : Int) == 78) = false := by rw [hc]; rfl
        have g3 : ((wt[pos].toNat : Int) == 83) = true := by rw [hc]; rfl
        clear HC HD hdr hc hW1 HW
        go_wp2_with fail
        go_ret
        exact ⟨by rw [HE.out]; rfl, hWn.out.below⟩
    · obtain rfl : pos = wt.size := by omega
      have hnx : ∀ ty, (Instr.next (.pointer (some ⟨I, 0, none⟩)) true ty).run Try.prog wr = .ok (.tuple #[.bool false]) wr := fun ty => Lib.run_next_end_at wr I wt wt.size ty HW.out.iter (by omega)
      have HE := Lib.hid (show countedL wt.data.toList n = (m == 0) by rw [HC.out, List.drop_of_length_le (by rw [dsize]; omega)]; rfl)
      clear HC
      go_wp2_with fail
      go_ret
      exact ⟨by rw [HE.out]; rfl, HW.out.below⟩
end Go.Proofs.Ytnpmkaklkonofaa.Txt


/- play.step's function literal: what one word says. -/
namespace Go.Proofs.Ytnpmkaklkonofaa.Txt
open Go.RowKit Go.Proofs.YtnpmkaklkonofaaW.PrintWords Go.Proofs.YtnpmkaklkonofaaW.PrintLast Go.Proofs.Ytnpmkaklkonofaa.Hand Go.Proofs.Ytnpmkaklkonofaa.Q

/-- The step's own variable in block A, the options' numbers in block I; o: they are options' numbers. -/
structure SW (A I : Nat) (kind : Int) (o : Bool) (x : StpS) (vN vS vO : Value) (w wr : World) : Prop where
  le : w.heap.size ≤ A
  lt : A < I
  step : wr.heap[A]? = some (.cells #[.int .i64 kind, vN, vS, .int .i64 0, .int .i64 0, .int .i64 0, .int .i64 0, .int .i64 0, .int .i64 0] 52 (0, 0))
  opt : wr.heap[I]? = some (.cells #[vO] 27 (0, 0))
  ownN : Kd.R (Kd.int .i64) 3 wr w.heap.size (fun k => k ≠ A ∧ k ≠ I) vN x.N
  ownS : Kd.R Kd.string 9 wr w.heap.size (fun k => k ≠ A ∧ k ≠ I) vS x.S
  ownO : Kd.R (Kd.int .i64) 3 wr w.heap.size (fun k => k ≠ A ∧ k ≠ I) vO x.O
  nilN : o = true → vN = .slice none 0 0
  nilO : o = false → vO = .slice none 0 0
  below : Below w.heap.size w wr

theorem R_nil_nil {α : Type} {d : Kd α} {e : Nat} {w : World} {base : Nat} {ok : Nat → Prop} {xs : List α} (h : d.R e w base ok (.slice none 0 0) xs) : xs = [] := by
  obtain ⟨A, c, he, _⟩ := Kd.R_reads h
  injection he with _ hl _
  exact List.eq_nil_of_length_eq_zero hl.symm

theorem R_int_string {W w1 : World} {b b' : Nat} {ok ok' : Nat → Prop} {vn v : Value} {ns : List Int} {xs : List ByteArray} (hn : Kd.R (Kd.int .i64) 3 W b ok vn ns) (hv : Kd.R Kd.string 9 W b' ok' v xs) (hg : W.grownBy w1 v.ownBlock) : Kd.R (Kd.int .i64) 3 w1 b ok vn ns := by
  obtain ⟨h0, inner, hown, _⟩ := hv
  cases hb : v.ownBlock with
  | none =>
    rw [hb] at hg
    exact Kd.R_grown hn hg (fun _ _ => by simp)
  | some g =>
    rw [hb] at hg
    obtain ⟨cells, hc⟩ := own_typed hown g hb
    have h1 := Kd.R_types hn hc (fun q hq => by
      have hE : (Kd.int .i64).E = [] := rfl
      rw [hE] at hq
      have : q = 3 := by simpa using hq
      omega)
    exact Kd.R_mono (Kd.R_grown h1 hg (fun k hk e => hk.2 (by simpa using e))) (fun _ h => h.1)
theorem R_string_int {W w1 : World} {b b' : Nat} {ok ok' : Nat → Prop} {vn v : Value} {ns : List ByteArray} {xs : List Int} (hn : Kd.R Kd.string 9 W b ok vn ns) (hv : Kd.R (Kd.int .i64) 3 W b' ok' v xs) (hg : W.grownBy w1 v.ownBlock) : Kd.R Kd.string 9 w1 b ok vn ns := by
  obtain ⟨h0, inner, hown, _⟩ := hv
  cases hb : v.ownBlock with
  | none =>
    rw [hb] at hg
    exact Kd.R_grown hn hg (fun _ _ => by simp)
  | some g =>
    rw [hb] at hg
    obtain ⟨cells, hc⟩ := own_typed hown g hb
    have h1 := Kd.R_types hn hc (fun q hq => by
      have hE : Kd.string.E = [] := rfl
      rw [hE] at hq
      have : q = 9 := by simpa using hq
      omega)
    exact Kd.R_mono (Kd.R_grown h1 hg (fun k hk e => hk.2 (by simpa using e))) (fun _ h => h.1)

theorem set_block {w : World} {g : Nat} {t : TypeId} {cs : Array Value} {fr : Nat × Nat} (h : w.heap[g]? = some (.cells cs t fr)) (i : Nat) (u : Value) : (w.setCell ⟨g, i, none⟩ u).heap[g]? = some (.cells (cs.setIfInBounds i u) t fr) := by
  simp [World.setCell, Array.getElem?_modify, h]

section
variable {A I : Nat} {kind : Int} {o : Bool} {x : StpS} {vN vS vO v1 : Value} {w wr w1 : World}
theorem SW.call (h : SW A I kind o x vN vS vO w wr) (hb : Below wr.heap.size wr w1) : SW A I kind o x vN vS vO w w1 :=
  ⟨h.le, h.lt, (hb.block _ (lt_of_block h.step)).trans h.step, (hb.block _ (lt_of_block h.opt)).trans h.opt, Kd.R_below h.ownN hb, Kd.R_below h.ownS hb, Kd.R_below h.ownO hb, h.nilN, h.nilO, h.below.trans (hb.mono h.below.size)⟩
theorem SW.fresh (h : SW A I kind o x vN vS vO w wr) : ∀ k, wr.heap.size ≤ k → k ≠ A ∧ k ≠ I := fun k hk => by
  have h1 := lt_of_block h.step
  have h2 := lt_of_block h.opt
  omega
theorem SW.cell (h : SW A I kind o x vN vS vO w wr) (j : Nat) : wr.cell? ⟨A, j, none⟩ = (#[.int .i64 kind, vN, vS, .int .i64 0, .int .i64 0, .int .i64 0, .int .i64 0, .int .i64 0, .int .i64 0] : Array Value)[j]? := cell_of_row wr _ _ _ _ _ h.step
theorem SW.cellO (h : SW A I kind o x vN vS vO w wr) : wr.cell? ⟨I, 0, none⟩ = some vO := cell_of_one h.opt
theorem SW.grown {v : Value} (h : SW A I kind o x vN vS vO w wr) (hv : ∀ k, v.ownBlock = some k → k ≠ A ∧ k ≠ I) (hg : wr.grownBy w1 v.ownBlock) : w1.heap[A]? = wr.heap[A]? ∧ w1.heap[I]? = wr.heap[I]? :=
  ⟨hg.block A (lt_of_block h.step) (fun e => (hv A e.symm).1 rfl), hg.block I (lt_of_block h.opt) (fun e => (hv I e.symm).2 rfl)⟩

theorem SW.putS (h : SW A I kind o x vN vS vO w wr) {S' : List ByteArray} (ho : Kd.R Kd.string 9 w1 w.heap.size (fun k => k ≠ A ∧ k ≠ I) v1 S') (hg : wr.grownBy w1 vS.ownBlock) :
    w1.cell? ⟨A, 2, none⟩ = some vS ∧ w1.frozen? ⟨A, 2, none⟩ = false ∧ SW A I kind o ⟨x.N, S', x.O⟩ vN v1 vO w (w1.setCell ⟨A, 2, none⟩ v1) := by
  obtain ⟨eA, eI⟩ := h.grown h.ownS.1 hg
  have hA := eA.trans h.step
  have hI := eI.trans h.opt
  have hB : Below w.heap.size w w1 := h.below.grown hg h.below.size (fun k hk => by obtain ⟨_, inner, hown, _⟩ := h.ownS; exact own_base hown k hk)
  refine ⟨cell_of_row w1 _ 2 _ _ _ hA, frozen_of_row w1 _ 2 _ _ hA, h.le, h.lt, set_block hA 2 v1, (Below.heap_setCell _ _ _ _ (by have := h.lt; show I ≠ A; omega)).trans hI, ?_, ?_, ?_, h.nilN, h.nilO, hB.setCell (p := ⟨A, 2, none⟩) h.le _⟩
  · exact Kd.R_far (p := ⟨A, 2, none⟩) (R_int_string h.ownN h.ownS hg) (fun k hk => hk.1) _
  · exact Kd.R_far (p := ⟨A, 2, none⟩) ho (fun k hk => hk.1) _
  · exact Kd.R_far (p := ⟨A, 2, none⟩) (R_int_string h.ownO h.ownS hg) (fun k hk => hk.1) _

theorem SW.putN (h : SW A I kind false x vN vS vO w wr) {N' : List Int} (ho : Kd.R (Kd.int .i64) 3 w1 w.heap.size (fun k => k ≠ A ∧ k ≠ I) v1 N') (hg : wr.grownBy w1 vN.ownBlock) :
    w1.cell? ⟨A, 1, none⟩ = some vN ∧ w1.frozen? ⟨A, 1, none⟩ = false ∧ SW A I kind false ⟨N', x.S, x.O⟩ v1 vS vO w (w1.setCell ⟨A, 1, none⟩ v1) := by
  obtain ⟨eA, eI⟩ := h.grown h.ownN.1 hg
  have hA := eA.trans h.step
  have hI := eI.trans h.opt
  have hB : Below w.heap.size w w1 := h.below.grown hg h.below.size (fun k hk => by obtain ⟨_, inner, hown, _⟩ := h.ownN; exact own_base hown k hk)
  refine ⟨cell_of_row w1 _ 1 _ _ _ hA, frozen_of_row w1 _ 1 _ _ hA, h.le, h.lt, set_block hA 1 v1, (Below.heap_setCell _ _ _ _ (by have := h.lt; show I ≠ A; omega)).trans hI, ?_, ?_, ?_, (fun e => by cases e), h.nilO, hB.setCell (p := ⟨A, 1, none⟩) h.le _⟩
  · exact Kd.R_far (p := ⟨A, 1, none⟩) ho (fun k hk => hk.1) _
  · exact Kd.R_far (p := ⟨A, 1, none⟩) (R_string_int h.ownS h.ownN hg) (fun k hk => hk.1) _
  · have hO := h.ownO
    have e := h.nilO rfl
    rw [e] at hO ⊢
    have e2 : x.O = [] := R_nil_nil hO
    show Kd.R _ _ _ _ _ _ x.O
    rw [e2]
    exact Kd.R_nil _ _ _ _ _

theorem SW.putO (h : SW A I kind true x vN vS vO w wr) {O' : List Int} (ho : Kd.R (Kd.int .i64) 3 w1 w.heap.size (fun k => k ≠ A ∧ k ≠ I) v1 O') (hg : wr.grownBy w1 vO.ownBlock) :
    w1.cell? ⟨I, 0, none⟩ = some vO ∧ w1.frozen? ⟨I, 0, none⟩ = false ∧ SW A I kind true ⟨x.N, x.S, O'⟩ vN vS v1 w (w1.setCell ⟨I, 0, none⟩ v1) := by
  obtain ⟨eA, eI⟩ := h.grown h.ownO.1 hg
  have hA := eA.trans h.step
  have hI := eI.trans h.opt
  have hB : Below w.heap.size w w1 := h.below.grown hg h.below.size (fun k hk => by obtain ⟨_, inner, hown, _⟩ := h.ownO; exact own_base hown k hk)
  refine ⟨cell_of_row w1 _ 0 _ _ _ hI, frozen_of_row w1 _ 0 _ _ hI, h.le, h.lt, (Below.heap_setCell _ _ _ _ (by have := h.lt; show A ≠ I; omega)).trans hA, one_setCell hI, ?_, ?_, ?_, h.nilN, (fun e => by cases e), hB.setCell (p := ⟨I, 0, none⟩) (by have := h.le; have := h.lt; show w.heap.size ≤ I; omega) _⟩
  · have hN := h.ownN
    have e := h.nilN rfl
    rw [e] at hN ⊢
    have e2 : x.N = [] := R_nil_nil hN
    show Kd.R _ _ _ _ _ _ x.N
    rw [e2]
    exact Kd.R_nil _ _ _ _ _
  · exact Kd.R_far (p := ⟨I, 0, none⟩) (R_string_int h.ownS h.ownO hg) (fun k hk => hk.2) _
  · exact Kd.R_far (p := ⟨I, 0, none⟩) ho (fun k hk => hk.2) _
end

set_option maxHeartbeats 1000000 in
set_option maxRecDepth 100000 in
/-- A word that is a text. -/
theorem stepS_calls (A I : Nat) (kind : Int) (o : Bool) (x : StpS) (vN vS vO : Value) (w wr : World) (c : UInt8) (s : ByteArray) (hc : c = 115 ∨ c = 83) (h : SW A I kind o x vN vS vO w wr) (hl : x.S.length ≤ 1073741824) :
    Calls Try.prog 71 #[.int .i32 (c.toNat : Int), .string s, .pointer (some ⟨A, 0, none⟩), .pointer (some ⟨I, 0, none⟩)] wr fun e w' => e = .returned (.int .i64 0) ∧ ∃ v1, SW A I kind o ⟨x.N, x.S ++ [s], x.O⟩ vN v1 vO w w' := by
  have c2 : wr.cell? ⟨A, 2, none⟩ = some vS := h.cell 2
  have HH := Lib.hid h
  have hz := h.below.size
  have hu := Try.underlying28
  have two : ((c.toNat : Int) == 115) = true ∨ (((c.toNat : Int) == 115) = false ∧ ((c.toNat : Int) == 83) = true) := by
    rcases hc with rfl | rfl
    · exact .inl rfl
    · exact .inr ⟨rfl, rfl⟩
  clear h hc
  rcases two with b1 | ⟨b1, b2⟩
  all_goals
    go_enter Try.func71, Try.ntmps71
    go_wp2_with (at_builtin; refine Kd.R_append Kd.string (w0 := w) w.heap.size rfl _ _ 28 9 (.string ⟨#[]⟩) 16 rfl Try.underlying28 info9 rfl (by decide) (by omega) vS x.S s [.string s] (fun k => k ≠ A ∧ k ≠ I) (fun _ => False) rfl rfl rfl (fun _ hk => hk.elim) HH.out.fresh HH.out.ownS HH.out.below HH.out.below.size (by omega) ?_; intro v1 w8 ho hb hg hat; obtain ⟨hc1, hf1, hs⟩ := HH.out.putS ho hg; obtain ⟨A1, n1, c1, e1⟩ : ∃ A1 n1 c1, v1 = .slice A1 n1 c1 := (by obtain ⟨A1, c1, e1⟩ := Kd.R_slice ho; exact ⟨_, _, _, e1⟩); subst e1; have HS := Lib.hid hs; clear ho hb hg hat hs c2)
    go_ret
    exact ⟨rfl, _, HS.out⟩

set_option maxHeartbeats 1000000 in
set_option maxRecDepth 100000 in
/-- A word that is an options' number. -/
theorem stepO_calls (A I : Nat) (kind : Int) (x : StpS) (vN vS vO : Value) (w wr : World) (s : ByteArray) (hs : s.size ≤ 140737488351232) (h : SW A I kind true x vN vS vO w wr) (hl : x.O.length ≤ 1073741824) :
    Calls Try.prog 71 #[.int .i32 111, .string s, .pointer (some ⟨A, 0, none⟩), .pointer (some ⟨I, 0, none⟩)] wr fun e w' => e = .returned (.int .i64 (unDec s).2) ∧ ∃ v1, SW A I kind true ⟨x.N, x.S, x.O ++ [(unDec s).1]⟩ vN vS v1 w w' := by
  have HH := Lib.hid h
  have hu := Try.underlying27
  clear h
  go_enter Try.func71, Try.ntmps71
  go_wp2_with fail
  refine (undec_calls s _ hs).mono ?_
  rintro e w5 ⟨rfl, hb5⟩
  have HH5 := Lib.hid (HH.out.call hb5)
  have c0 : w5.cell? ⟨I, 0, none⟩ = some vO := HH5.out.cellO
  have hz := HH5.out.below.size
  clear hb5 HH
  go_wp2_with (at_builtin; refine Kd.R_append (Kd.int .i64) (w0 := w) w.heap.size rfl _ _ 27 3 (.int .i64 0) 8 rfl Try.underlying27 info3 rfl (by decide) (by omega) vO x.O (unDec s).1 [.int .i64 (unDec s).1] (fun k => k ≠ A ∧ k ≠ I) (fun _ => False) rfl rfl rfl (fun _ hk => hk.elim) HH5.out.fresh HH5.out.ownO HH5.out.below HH5.out.below.size (by omega) ?_; intro v1 w8 ho hb hg hat; obtain ⟨hc1, hf1, hs⟩ := HH5.out.putO ho hg; obtain ⟨A1, n1, c1, e1⟩ : ∃ A1 n1 c1, v1 = .slice A1 n1 c1 := (by obtain ⟨A1, c1, e1⟩ := Kd.R_slice ho; exact ⟨_, _, _, e1⟩); subst e1; have HS := Lib.hid hs; clear ho hb hg hat hs c0)
  go_ret
  exact ⟨rfl, _, HS.out⟩

set_option maxHeartbeats 1000000 in
set_option maxRecDepth 100000 in
/-- A word that is a number. -/
theorem stepN_calls (A I : Nat) (kind : Int) (x : StpS) (vN vS vO : Value) (w wr : World) (c : UInt8) (s : ByteArray) (hc : ¬ (c = 115 ∨ c = 83)) (hc2 : c ≠ 111) (hs : s.size ≤ 140737488351232) (h : SW A I kind false x vN vS vO w wr) (hl : x.N.length ≤ 1073741824) :
    Calls Try.prog 71 #[.int .i32 (c.toNat : Int), .string s, .pointer (some ⟨A, 0, none⟩), .pointer (some ⟨I, 0, none⟩)] wr fun e w' => e = .returned (.int .i64 (unDec s).2) ∧ ∃ v1, SW A I kind false ⟨x.N ++ [(unDec s).1], x.S, x.O⟩ v1 vS vO w w' := by
  have HH := Lib.hid h
  have hu := Try.underlying27
  have key : ∀ d : UInt8, c ≠ d → ((c.toNat : Int) == (d.toNat : Int)) = false := fun d hd => by
    rw [beq_eq_false_iff_ne]
    intro e
    exact hd (UInt8.toNat_inj.1 (by omega))
  have b1 : ((c.toNat : Int) == 115) = false := key 115 (fun e => hc (.inl e))
  have b2 : ((c.toNat : Int) == 83) = false := key 83 (fun e => hc (.inr e))
  have b3 : ((c.toNat : Int) == 111) = false := key 111 hc2
  clear h key hc hc2
  go_enter Try.func71, Try.ntmps71
  go_wp2_with fail
  refine (undec_calls s _ hs).mono ?_
  rintro e w5 ⟨rfl, hb5⟩
  have HH5 := Lib.hid (HH.out.call hb5)
  have c0 : w5.cell? ⟨A, 1, none⟩ = some vN := HH5.out.cell 1
  have hz := HH5.out.below.size
  clear hb5 HH
  go_wp2_with (at_builtin; refine Kd.R_append (Kd.int .i64) (w0 := w) w.heap.size rfl _ _ 27 3 (.int .i64 0) 8 rfl Try.underlying27 info3 rfl (by decide) (by omega) vN x.N (unDec s).1 [.int .i64 (unDec s).1] (fun k => k ≠ A ∧ k ≠ I) (fun _ => False) rfl rfl rfl (fun _ hk => hk.elim) HH5.out.fresh HH5.out.ownN HH5.out.below HH5.out.below.size (by omega) ?_; intro v1 w8 ho hb hg hat; obtain ⟨hc1, hf1, hs⟩ := HH5.out.putN ho hg; obtain ⟨A1, n1, c1, e1⟩ : ∃ A1 n1 c1, v1 = .slice A1 n1 c1 := (by obtain ⟨A1, c1, e1⟩ := Kd.R_slice ho; exact ⟨_, _, _, e1⟩); subst e1; have HS := Lib.hid hs; clear ho hb hg hat hs c0)
  go_ret
  exact ⟨rfl, _, HS.out⟩

/-- A word, whatever it is. -/
theorem stepC_calls (A I : Nat) (kind : Int) (o : Bool) (x : StpS) (vN vS vO : Value) (w wr : World) (c : UInt8) (s : ByteArray) (hs : s.size ≤ 140737488351232) (h : SW A I kind o x vN vS vO w wr) (ho : ¬ (c = 115 ∨ c = 83) → (o = true ↔ c = 111)) (hl : x.N.length ≤ 1073741824 ∧ x.S.length ≤ 1073741824 ∧ x.O.length ≤ 1073741824) :
    Calls Try.prog 71 #[.int .i32 (c.toNat : Int), .string s, .pointer (some ⟨A, 0, none⟩), .pointer (some ⟨I, 0, none⟩)] wr fun e w' => e = .returned (.int .i64 (takeS c s x).2) ∧ ∃ v1 v2 v3, SW A I kind o (takeS c s x).1 v1 v2 v3 w w' := by
  by_cases hc : c = 115 ∨ c = 83
  · refine (stepS_calls A I kind o x vN vS vO w wr c s hc h hl.2.1).mono ?_
    rintro e w' ⟨rfl, v1, hh⟩
    have e1 : takeS c s x = (⟨x.N, x.S ++ [s], x.O⟩, 0) := if_pos hc
    rw [e1]
    exact ⟨rfl, _, _, _, hh⟩
  · have ho := ho hc
    by_cases hc2 : c = 111
    · obtain rfl : o = true := ho.2 hc2
      subst hc2
      refine (stepO_calls A I kind x vN vS vO w wr s hs h hl.2.2).mono ?_
      rintro e w' ⟨rfl, v1, hh⟩
      have e1 : takeS 111 s x = (⟨x.N, x.S, x.O ++ [(unDec s).1]⟩, (unDec s).2) := rfl
      rw [e1]
      exact ⟨rfl, _, _, _, hh⟩
    · obtain rfl : o = false := by
        cases o with
        | false => rfl
        | true => exact absurd (ho.1 rfl) hc2
      refine (stepN_calls A I kind x vN vS vO w wr c s hc hc2 hs h hl.1).mono ?_
      rintro e w' ⟨rfl, v1, hh⟩
      have e1 : takeS c s x = (⟨x.N ++ [(unDec s).1], x.S, x.O⟩, (unDec s).2) := by unfold takeS; rw [if_neg hc, if_neg hc2]
      rw [e1]
      exact ⟨rfl, _, _, _, hh⟩

end Go.Proofs.Ytnpmkaklkonofaa.Txt


/- (play.shape).each: every word handed on, with its letter. -/
namespace Go.Proofs.Ytnpmkaklkonofaa.Txt
open Go.RowKit Go.Proofs.YtnpmkaklkonofaaW.PrintWords Go.Proofs.YtnpmkaklkonofaaW.PrintLast Go.Proofs.Ytnpmkaklkonofaa.Hand Go.Proofs.Ytnpmkaklkonofaa.Q Go.Proofs.YtnpmkaklkonofaaW.PrintMore
attribute [local go_sem] max2_int min2_int max_two min_two max_three min_three max_four min_four

set_option maxHeartbeats 1000000 in
set_option maxRecDepth 100000 in
/-- inv: what holds ahead of word i; bad: what holds behind a refusal. -/
theorem seach_calls (k : Nat) (hk : k < 35) (F : Nat) (cv1 cv2 : Value) (hF : ∀ args (W : World), (callFunc F args).run Try.prog W = .ok (.enter F args) W) (A : Option Addr) (c : Nat) (ws : List ByteArray) (inv : Nat → World → Prop) (bad : Int → World → Prop) (w : World)
    (hne : 0 < ws.length → 0 < (wantsOf k).length) (hl : ws.length ≤ 1073741824) (hcap : ws.length ≤ c)
    (hI : ∀ i W W', inv i W → Below W.heap.size W W' → inv i W') (hR : ∀ i W, inv i W → Kd.C Kd.string W A ws.length ws) (h0 : inv 0 w)
    (hc : ∀ i, i < ws.length → ∀ W, inv i W → Calls Try.prog F #[.int .i32 ((letterAt (wantsOf k) i).toNat : Int), .string (ws.getD i ByteArray.empty), cv1, cv2] W fun e W' => (e = .returned (.int .i64 0) ∧ inv (i + 1) W') ∨ (∃ r, e = .returned (.int .i64 r) ∧ r ≠ 0 ∧ bad r W')) :
    Calls Try.prog 70 #[.agg #[strV (shapeT.getD k ([], [])).1, strV (shapeT.getD k ([], [])).2], .slice A ws.length c, .func (.func F) #[] #[cv1, cv2]] w fun e w' => (e = .returned (.int .i64 0) ∧ inv ws.length w') ∨ (∃ r, e = .returned (.int .i64 r) ∧ r ≠ 0 ∧ bad r w') := by
  obtain ⟨wd, hwd⟩ : ∃ wd, wd = (⟨(shapeT.getD k ([], [])).1.toArray⟩ : ByteArray) := ⟨_, rfl⟩
  obtain ⟨wt, hwt⟩ : ∃ wt, wt = (⟨(shapeT.getD k ([], [])).2.toArray⟩ : ByteArray) := ⟨_, rfl⟩
  have hwl : wt.size ≤ 5 := by rw [hwt, ← dsize]; exact (wants_ok k hk).2
  unfold strV
  rw [← hwd, ← hwt]
  have HC := Lib.hid hc
  have HI := Lib.hid hI
  have HR := Lib.hid hR
  have H0 := Lib.hid h0
  have HWT := Lib.hid hwt
  clear hc hI hR h0 hwd hwt
  by_cases ho : wt.data.toList = [111]
  case' pos =>
    have hw6 : wantsOf k = [111, 111, 111, 111, 111, 111] := by unfold wantsOf; rw [HWT.out] at ho; exact if_pos ho
    have hq : (wt.toList == [111]) = true := by rw [ByteArray.toList_eq, ho]; rfl
    go_enter Try.func70, Try.ntmps70
    go_wp2_with fail
    refine (Try.strings_Repeat_main ⟨#[111]⟩ 6 _ (by omega) (by omega) (by decide) (by decide)).mono ?_
    rintro e w5 ⟨rfl, hb⟩
    obtain ⟨wq, hwq, hw⟩ : ∃ wq : ByteArray, (⟨(Lib.repeatL (⟨#[111]⟩ : ByteArray).data.toList 6).toArray⟩ : ByteArray) = wq ∧ wq.data.toList = wantsOf k := ⟨_, rfl, by rw [hw6]; rfl⟩
    rw [hwq]
    have h5 : Below w.heap.size w w5 := ((Below.refl _ _).alloc (Nat.le_refl _) _).trans (hb.mono (by simp))
    have H1 := Lib.hid (HI.out 0 _ _ H0.out h5)
    have HQ := Lib.hid hw
    have hq6 : wq.size ≤ 6 := by rw [← dsize, hw, hw6]; exact Nat.le_refl _
    have hqn : 0 < ws.length → 0 < wq.size := fun h => by rw [← dsize, hw]; exact hne h
    clear hwq hw hb h5 hq hw6 ho
  case' neg =>
    have hw6 : wantsOf k = wt.data.toList := by unfold wantsOf; rw [HWT.out] at ho ⊢; exact if_neg ho
    have hq : (wt.toList == [111]) = false := by rw [beq_eq_false_iff_ne, ByteArray.toList_eq]; exact ho
    go_enter Try.func70, Try.ntmps70
    go_wp2_with fail
    have H1 := Lib.hid (HI.out 0 _ _ H0.out (below_alloc (Below.refl _ _) (.cells #[.string wd, .string wt] 60)))
    obtain ⟨w5, hw5⟩ : ∃ w5, w.alloc (.cells #[.string wd, .string wt] 60) = w5 := ⟨_, rfl⟩
    rw [hw5] at H1 ⊢
    obtain ⟨wq, rfl⟩ : ∃ wq, wq = wt := ⟨_, rfl⟩
    have HQ := Lib.hid hw6.symm
    have hq6 : wq.size ≤ 6 := by omega
    have hqn : 0 < ws.length → 0 < wq.size := fun h => by rw [← dsize, ← hw6]; exact hne h
    clear hw5 hq hw6 ho
  all_goals
    go_wp2_with fail
    go_loopg [19] ws.length (fun gk v19 wr => ∃ i : Nat, v19 = .int .i64 i ∧ gk + i = ws.length ∧ Hid (inv i wr))
    case atStart => exact ⟨0, rfl, rfl, H1⟩
    case round =>
      clear H1
      obtain ⟨i, rfl, hgk, HW⟩ := hrel
      by_cases hlt : i < ws.length
      · obtain ⟨gk', rfl⟩ : ∃ m, gk = m + 1 := ⟨gk - 1, by omega⟩
        have hqn' := hqn (by omega)
        obtain ⟨ad, e, hel⟩ := Kd.at_string (HR.out i _ HW.out) (i : Int) (by omega) (by omega)
        subst e
        have hel2 : wr.cell? (ad.add i) = some (.string (ws.getD i ByteArray.empty)) := by simpa [rdOf] using hel
        have hCi := HC.out i hlt
        generalize ws.getD i ByteArray.empty = wi at *
        have HCi := Lib.hid hCi
        have hi63 : (i : Int) ≤ 1073741824 := by omega
        clear hel hCi
        have two : ∃ m : Nat, m < wq.size ∧ m = min i (wq.size - 1) ∧ ((if ((wq.size : Int) - 1) < (i : Int) then ((wq.size : Int) - 1) else (i : Int)) = (m : Int)) := by
          refine ⟨min i (wq.size - 1), by omega, rfl, ?_⟩
          split <;> omega
        obtain ⟨m, hm1, hm2, hm3⟩ := two
        have HL : Hid (letterAt (wantsOf k) i = wq[m]) := by
          show _ = _
          unfold letterAt
          rw [← HQ.out, dsize, ← hm2, List.getD_eq_getElem?_getD, List.getElem?_eq_getElem (by rw [dsize]; exact hm1)]; rfl
        have hCi2 := HCi.out
        rw [HL.out] at hCi2
        have HCj := Lib.hid hCi2
        have hb255 : ((wq[m].toNat : Nat) : Int) ≤ 255 := by have := (wq[m]).toNat_lt; omega
        clear hm2 HCi hCi2
        go_wp2_with fail
        refine (HCj.out _ HW.out).mono ?_
        rintro e w7 (⟨rfl, h7⟩ | ⟨r, rfl, hr, h7⟩)
        · have H7 := Lib.hid h7
          clear h7
          go_wp2_with fail
          go_roundg gk'
          case rel => exact ⟨i + 1, by go_num, by omega, H7⟩
          case measure => omega
        · have H7 := Lib.hid h7
          have hr1 : (r != 0) = true := by simpa using hr
          have HR1 := Lib.hid hr
          clear h7 hr
          go_wp2_with fail
          go_ret
          exact .inr ⟨r, rfl, HR1.out, H7.out⟩
      · obtain rfl : i = ws.length := by omega
        go_wp2_with fail
        go_ret
        exact .inl ⟨rfl, HW.out⟩
end Go.Proofs.Ytnpmkaklkonofaa.Txt


/- play.step: a line's words as a step. -/
namespace Go.Proofs.Ytnpmkaklkonofaa.Txt
open Go.RowKit Go.Proofs.YtnpmkaklkonofaaW.PrintWords Go.Proofs.YtnpmkaklkonofaaW.PrintLast Go.Proofs.Ytnpmkaklkonofaa.Hand Go.Proofs.Ytnpmkaklkonofaa.Q Go.Proofs.YtnpmkaklkonofaaW.PrintMore

/-- The options that six numbers are. -/
def optsL (o : List Int) : S50 := if o.length = 6 then ⟨o.getD 0 0, o.getD 1 0, o.getD 2 0, o.getD 3 0, o.getD 4 0, o.getD 5 0⟩ else z50
/-- A line's words as a step; the refusal. -/
def stepP (ws : List ByteArray) : S52 × Int :=
  if ws = [] ∨ namedL (ws.getD 0 ByteArray.empty).data.toList = 0 ∨ countedL (shapeT.getD (namedL (ws.getD 0 ByteArray.empty).data.toList) ([], [])).2 ((ws.length : Int) - 1) = false then (z52, 300)
  else if (eachS (wantsOf (namedL (ws.getD 0 ByteArray.empty).data.toList)) 0 (ws.drop 1) ⟨[], [], []⟩).2 ≠ 0 then (z52, (eachS (wantsOf (namedL (ws.getD 0 ByteArray.empty).data.toList)) 0 (ws.drop 1) ⟨[], [], []⟩).2)
  else (⟨(namedL (ws.getD 0 ByteArray.empty).data.toList : Int), (eachS (wantsOf (namedL (ws.getD 0 ByteArray.empty).data.toList)) 0 (ws.drop 1) ⟨[], [], []⟩).1.N, (eachS (wantsOf (namedL (ws.getD 0 ByteArray.empty).data.toList)) 0 (ws.drop 1) ⟨[], [], []⟩).1.S, optsL (eachS (wantsOf (namedL (ws.getD 0 ByteArray.empty).data.toList)) 0 (ws.drop 1) ⟨[], [], []⟩).1.O⟩, 0)

/-- What the answer of a step is, in a world. -/
structure StepAns (x : S52 × Int) (w : World) (e : Ending) (w' : World) : Prop where
  out : ∃ v1_ v2_ : Value, e = .returned (.tuple #[.agg #[.int .i64 x.1.f0, v1_, v2_, .int .i64 x.1.f3.f0, .int .i64 x.1.f3.f1, .int .i64 x.1.f3.f2, .int .i64 x.1.f3.f3, .int .i64 x.1.f3.f4, .int .i64 x.1.f3.f5], .int .i64 x.2]) ∧ Kd.R (Kd.int .i64) 3 w' w.heap.size (fun _ => True) v1_ x.1.f1 ∧ Kd.R Kd.string 9 w' w.heap.size (fun _ => True) v2_ x.1.f2 ∧ Below w.heap.size w w'

/-- Block g is a step's variable that holds nothing. -/
structure ZW (g : Nat) (w wr : World) : Prop where
  le : w.heap.size ≤ g
  block : wr.heap[g]? = some (.cells #[.int .i64 0, .slice none 0 0, .slice none 0 0, .int .i64 0, .int .i64 0, .int .i64 0, .int .i64 0, .int .i64 0, .int .i64 0] 52 (0, 0))
  below : Below w.heap.size w wr
theorem ZW.call {g : Nat} {w wr w1 : World} (h : ZW g w wr) (hb : Below wr.heap.size wr w1) : ZW g w w1 := ⟨h.le, (hb.block _ (lt_of_block h.block)).trans h.block, h.below.trans (hb.mono h.below.size)⟩
theorem ZW.cells {g : Nat} {w wr : World} (h : ZW g w wr) : wr.cell? ⟨g, 0, none⟩ = some (.int .i64 0) ∧ wr.frozen? ⟨g, 0, none⟩ = false ∧ wr.cell? ⟨g, 1, none⟩ = some (.slice none 0 0) ∧ wr.frozen? ⟨g, 1, none⟩ = false ∧ wr.cell? ⟨g, 2, none⟩ = some (.slice none 0 0) ∧ wr.frozen? ⟨g, 2, none⟩ = false ∧ wr.cell? ⟨g, 3, none⟩ = some (.int .i64 0) ∧ wr.frozen? ⟨g, 3, none⟩ = false ∧ wr.cell? ⟨g, 4, none⟩ = some (.int .i64 0) ∧ wr.frozen? ⟨g, 4, none⟩ = false ∧ wr.cell? ⟨g, 5, none⟩ = some (.int .i64 0) ∧ wr.frozen? ⟨g, 5, none⟩ = false ∧ wr.cell? ⟨g, 6, none⟩ = some (.int .i64 0) ∧ wr.frozen? ⟨g, 6, none⟩ = false ∧ wr.cell? ⟨g, 7, none⟩ = some (.int .i64 0) ∧ wr.frozen? ⟨g, 7, none⟩ = false ∧ wr.cell? ⟨g, 8, none⟩ = some (.int .i64 0) ∧ wr.frozen? ⟨g, 8, none⟩ = false := ⟨cell_of_row wr _ 0 _ _ _ h.block, frozen_of_row wr _ 0 _ _ h.block, cell_of_row wr _ 1 _ _ _ h.block, frozen_of_row wr _ 1 _ _ h.block, cell_of_row wr _ 2 _ _ _ h.block, frozen_of_row wr _ 2 _ _ h.block, cell_of_row wr _ 3 _ _ _ h.block, frozen_of_row wr _ 3 _ _ h.block, cell_of_row wr _ 4 _ _ _ h.block, frozen_of_row wr _ 4 _ _ h.block, cell_of_row wr _ 5 _ _ _ h.block, frozen_of_row wr _ 5 _ _ h.block, cell_of_row wr _ 6 _ _ _ h.block, frozen_of_row wr _ 6 _ _ h.block, cell_of_row wr _ 7 _ _ _ h.block, frozen_of_row wr _ 7 _ _ h.block, cell_of_row wr _ 8 _ _ _ h.block, frozen_of_row wr _ 8 _ _ h.block⟩
theorem ZW.put {g : Nat} {w wr : World} (h : ZW g w wr) (u0 u1 u2 u3 u4 u5 u6 u7 u8 : Value) : (((((((((wr.setCell ⟨g, 0, none⟩ u0).setCell ⟨g, 1, none⟩ u1).setCell ⟨g, 2, none⟩ u2).setCell ⟨g, 3, none⟩ u3).setCell ⟨g, 4, none⟩ u4).setCell ⟨g, 5, none⟩ u5).setCell ⟨g, 6, none⟩ u6).setCell ⟨g, 7, none⟩ u7).setCell ⟨g, 8, none⟩ u8).heap[g]? = some (.cells #[u0, u1, u2, u3, u4, u5, u6, u7, u8] 52 (0, 0)) ∧ Below w.heap.size w (((((((((wr.setCell ⟨g, 0, none⟩ u0).setCell ⟨g, 1, none⟩ u1).setCell ⟨g, 2, none⟩ u2).setCell ⟨g, 3, none⟩ u3).setCell ⟨g, 4, none⟩ u4).setCell ⟨g, 5, none⟩ u5).setCell ⟨g, 6, none⟩ u6).setCell ⟨g, 7, none⟩ u7).setCell ⟨g, 8, none⟩ u8) := ⟨blk_put (cs' := #[u0, u1, u2, u3, u4, u5, u6, u7, u8]) (blk_put (cs' := #[u0, u1, u2, u3, u4, u5, u6, u7, .int .i64 0]) (blk_put (cs' := #[u0, u1, u2, u3, u4, u5, u6, .int .i64 0, .int .i64 0]) (blk_put (cs' := #[u0, u1, u2, u3, u4, u5, .int .i64 0, .int .i64 0, .int .i64 0]) (blk_put (cs' := #[u0, u1, u2, u3, u4, .int .i64 0, .int .i64 0, .int .i64 0, .int .i64 0]) (blk_put (cs' := #[u0, u1, u2, u3, .int .i64 0, .int .i64 0, .int .i64 0, .int .i64 0, .int .i64 0]) (blk_put (cs' := #[u0, u1, u2, .int .i64 0, .int .i64 0, .int .i64 0, .int .i64 0, .int .i64 0, .int .i64 0]) (blk_put (cs' := #[u0, u1, .slice none 0 0, .int .i64 0, .int .i64 0, .int .i64 0, .int .i64 0, .int .i64 0, .int .i64 0]) (blk_put (cs' := #[u0, .slice none 0 0, .slice none 0 0, .int .i64 0, .int .i64 0, .int .i64 0, .int .i64 0, .int .i64 0, .int .i64 0]) (h.block) 0 u0 rfl) 1 u1 rfl) 2 u2 rfl) 3 u3 rfl) 4 u4 rfl) 5 u5 rfl) 6 u6 rfl) 7 u7 rfl) 8 u8 rfl, (((((((((h.below).setCell (p := ⟨g, 0, none⟩) h.le u0).setCell (p := ⟨g, 1, none⟩) h.le u1).setCell (p := ⟨g, 2, none⟩) h.le u2).setCell (p := ⟨g, 3, none⟩) h.le u3).setCell (p := ⟨g, 4, none⟩) h.le u4).setCell (p := ⟨g, 5, none⟩) h.le u5).setCell (p := ⟨g, 6, none⟩) h.le u6).setCell (p := ⟨g, 7, none⟩) h.le u7).setCell (p := ⟨g, 8, none⟩) h.le u8⟩
theorem ZW.start (w : World) : ZW w.heap.size w (w.alloc (.cells #[.int .i64 0, .slice none 0 0, .slice none 0 0, .int .i64 0, .int .i64 0, .int .i64 0, .int .i64 0, .int .i64 0, .int .i64 0] 52)) := ⟨Nat.le_refl _, heap_alloc_new w _, (Below.refl _ _).alloc (Nat.le_refl _) _⟩

theorem info52' : (Try.prog.info? 52).map (·.size) = some 9 := by kernel_rfl
theorem step_end {x : S52 × Int} {tmps : Array Value} {w w' : World} {g : Nat} {v1 v2 : Value} (hp : tmps.getD 2 undef = .pointer (some ⟨g, 0, none⟩)) (h3 : tmps.getD 3 undef = .int .i64 x.2)
    (hb : w'.heap[g]? = some (.cells #[.int .i64 x.1.f0, v1, v2, .int .i64 x.1.f3.f0, .int .i64 x.1.f3.f1, .int .i64 x.1.f3.f2, .int .i64 x.1.f3.f3, .int .i64 x.1.f3.f4, .int .i64 x.1.f3.f5] 52 (0, 0)))
    (h1 : Kd.R (Kd.int .i64) 3 w' w.heap.size (fun _ => True) v1 x.1.f1) (h2 : Kd.R Kd.string 9 w' w.heap.size (fun _ => True) v2 x.1.f2) (hB : Below w.heap.size w w') :
    bodyPost Try.prog Try.f45 (StepAns x w) .ret { tmps := tmps, defers := [] } w' :=
  bodyPost_ret (results_ct rfl _ _ g 52 _ (0, 0) _ hp hb Try.underlying52 rfl (by rw [info52']; rfl)) rfl ⟨v1, v2, by rw [h3], h1, h2, hB⟩

/-- Ahead of the end: the answer's variable in block g holds nothing yet, the step's own in block A. -/
structure SF (A g : Nat) (x : StpS) (vN vS : Value) (w w4 W : World) : Prop where
  le : w.heap.size ≤ g
  lt : g < A
  le4 : g ≤ w4.heap.size
  z : W.heap[g]? = some (.cells #[.int .i64 0, .slice none 0 0, .slice none 0 0, .int .i64 0, .int .i64 0, .int .i64 0, .int .i64 0, .int .i64 0, .int .i64 0] 52 (0, 0))
  N : Kd.R (Kd.int .i64) 3 W w4.heap.size (fun k => k ≠ A ∧ k ≠ g) vN x.N
  S : Kd.R Kd.string 9 W w4.heap.size (fun k => k ≠ A ∧ k ≠ g) vS x.S
  below : Below w.heap.size w W
theorem SF.setA {A g : Nat} {x : StpS} {vN vS : Value} {w w4 W : World} (h : SF A g x vN vS w w4 W) (j : Nat) (u : Value) : SF A g x vN vS w w4 (W.setCell ⟨A, j, none⟩ u) :=
  ⟨h.le, h.lt, h.le4, (Below.heap_setCell _ _ _ _ (by have := h.lt; show g ≠ A; omega)).trans h.z, Kd.R_far (p := ⟨A, j, none⟩) h.N (fun _ hk => hk.1) u, Kd.R_far (p := ⟨A, j, none⟩) h.S (fun _ hk => hk.1) u, h.below.setCell (p := ⟨A, j, none⟩) (by have := h.le; have := h.lt; show w.heap.size ≤ A; omega) u⟩
theorem SF.six {A g : Nat} {x : StpS} {vN vS : Value} {w w4 W : World} (h : SF A g x vN vS w w4 W) (u3 u4 u5 u6 u7 u8 : Value) : SF A g x vN vS w w4 ((((((W.setCell ⟨A, 3, none⟩ u3).setCell ⟨A, 4, none⟩ u4).setCell ⟨A, 5, none⟩ u5).setCell ⟨A, 6, none⟩ u6).setCell ⟨A, 7, none⟩ u7).setCell ⟨A, 8, none⟩ u8) := ((((((h).setA 3 u3).setA 4 u4).setA 5 u5).setA 6 u6).setA 7 u7).setA 8 u8
theorem SF.fin {A g : Nat} {x : StpS} {vN vS : Value} {w w4 W : World} (h : SF A g x vN vS w w4 W) (u0 u1 u2 u3 u4 u5 u6 u7 u8 : Value) :
    (((((((((W.setCell ⟨g, 0, none⟩ u0).setCell ⟨g, 1, none⟩ u1).setCell ⟨g, 2, none⟩ u2).setCell ⟨g, 3, none⟩ u3).setCell ⟨g, 4, none⟩ u4).setCell ⟨g, 5, none⟩ u5).setCell ⟨g, 6, none⟩ u6).setCell ⟨g, 7, none⟩ u7).setCell ⟨g, 8, none⟩ u8).heap[g]? = some (.cells #[u0, u1, u2, u3, u4, u5, u6, u7, u8] 52 (0, 0)) ∧ Kd.R (Kd.int .i64) 3 (((((((((W.setCell ⟨g, 0, none⟩ u0).setCell ⟨g, 1, none⟩ u1).setCell ⟨g, 2, none⟩ u2).setCell ⟨g, 3, none⟩ u3).setCell ⟨g, 4, none⟩ u4).setCell ⟨g, 5, none⟩ u5).setCell ⟨g, 6, none⟩ u6).setCell ⟨g, 7, none⟩ u7).setCell ⟨g, 8, none⟩ u8) w.heap.size (fun _ => True) vN x.N ∧ Kd.R Kd.string 9 (((((((((W.setCell ⟨g, 0, none⟩ u0).setCell ⟨g, 1, none⟩ u1).setCell ⟨g, 2, none⟩ u2).setCell ⟨g, 3, none⟩ u3).setCell ⟨g, 4, none⟩ u4).setCell ⟨g, 5, none⟩ u5).setCell ⟨g, 6, none⟩ u6).setCell ⟨g, 7, none⟩ u7).setCell ⟨g, 8, none⟩ u8) w.heap.size (fun _ => True) vS x.S ∧ Below w.heap.size w (((((((((W.setCell ⟨g, 0, none⟩ u0).setCell ⟨g, 1, none⟩ u1).setCell ⟨g, 2, none⟩ u2).setCell ⟨g, 3, none⟩ u3).setCell ⟨g, 4, none⟩ u4).setCell ⟨g, 5, none⟩ u5).setCell ⟨g, 6, none⟩ u6).setCell ⟨g, 7, none⟩ u7).setCell ⟨g, 8, none⟩ u8) :=
  ⟨blk_put (cs' := #[u0, u1, u2, u3, u4, u5, u6, u7, u8]) (blk_put (cs' := #[u0, u1, u2, u3, u4, u5, u6, u7, .int .i64 0]) (blk_put (cs' := #[u0, u1, u2, u3, u4, u5, u6, .int .i64 0, .int .i64 0]) (blk_put (cs' := #[u0, u1, u2, u3, u4, u5, .int .i64 0, .int .i64 0, .int .i64 0]) (blk_put (cs' := #[u0, u1, u2, u3, u4, .int .i64 0, .int .i64 0, .int .i64 0, .int .i64 0]) (blk_put (cs' := #[u0, u1, u2, u3, .int .i64 0, .int .i64 0, .int .i64 0, .int .i64 0, .int .i64 0]) (blk_put (cs' := #[u0, u1, u2, .int .i64 0, .int .i64 0, .int .i64 0, .int .i64 0, .int .i64 0, .int .i64 0]) (blk_put (cs' := #[u0, u1, .slice none 0 0, .int .i64 0, .int .i64 0, .int .i64 0, .int .i64 0, .int .i64 0, .int .i64 0]) (blk_put (cs' := #[u0, .slice none 0 0, .slice none 0 0, .int .i64 0, .int .i64 0, .int .i64 0, .int .i64 0, .int .i64 0, .int .i64 0]) (h.z) 0 u0 rfl) 1 u1 rfl) 2 u2 rfl) 3 u3 rfl) 4 u4 rfl) 5 u5 rfl) 6 u6 rfl) 7 u7 rfl) 8 u8 rfl, Kd.R_mono (Kd.R_lower (Kd.R_far (p := ⟨g, 8, none⟩) (Kd.R_far (p := ⟨g, 7, none⟩) (Kd.R_far (p := ⟨g, 6, none⟩) (Kd.R_far (p := ⟨g, 5, none⟩) (Kd.R_far (p := ⟨g, 4, none⟩) (Kd.R_far (p := ⟨g, 3, none⟩) (Kd.R_far (p := ⟨g, 2, none⟩) (Kd.R_far (p := ⟨g, 1, none⟩) (Kd.R_far (p := ⟨g, 0, none⟩) (h.N) (fun _ hk => hk.2) u0) (fun _ hk => hk.2) u1) (fun _ hk => hk.2) u2) (fun _ hk => hk.2) u3) (fun _ hk => hk.2) u4) (fun _ hk => hk.2) u5) (fun _ hk => hk.2) u6) (fun _ hk => hk.2) u7) (fun _ hk => hk.2) u8) (Nat.le_trans h.le h.le4)) (fun _ _ => trivial), Kd.R_mono (Kd.R_lower (Kd.R_far (p := ⟨g, 8, none⟩) (Kd.R_far (p := ⟨g, 7, none⟩) (Kd.R_far (p := ⟨g, 6, none⟩) (Kd.R_far (p := ⟨g, 5, none⟩) (Kd.R_far (p := ⟨g, 4, none⟩) (Kd.R_far (p := ⟨g, 3, none⟩) (Kd.R_far (p := ⟨g, 2, none⟩) (Kd.R_far (p := ⟨g, 1, none⟩) (Kd.R_far (p := ⟨g, 0, none⟩) (h.S) (fun _ hk => hk.2) u0) (fun _ hk => hk.2) u1) (fun _ hk => hk.2) u2) (fun _ hk => hk.2) u3) (fun _ hk => hk.2) u4) (fun _ hk => hk.2) u5) (fun _ hk => hk.2) u6) (fun _ hk => hk.2) u7) (fun _ hk => hk.2) u8) (Nat.le_trans h.le h.le4)) (fun _ _ => trivial), (((((((((h.below).setCell (p := ⟨g, 0, none⟩) h.le u0).setCell (p := ⟨g, 1, none⟩) h.le u1).setCell (p := ⟨g, 2, none⟩) h.le u2).setCell (p := ⟨g, 3, none⟩) h.le u3).setCell (p := ⟨g, 4, none⟩) h.le u4).setCell (p := ⟨g, 5, none⟩) h.le u5).setCell (p := ⟨g, 6, none⟩) h.le u6).setCell (p := ⟨g, 7, none⟩) h.le u7).setCell (p := ⟨g, 8, none⟩) h.le u8⟩
theorem SW.fin {A I g : Nat} {kind : Int} {o : Bool} {x : StpS} {vN vS vO : Value} {w w4 W : World} (h : SW A I kind o x vN vS vO w4 W) (hz : ZW g w W) (hlt : g < w4.heap.size) : SF A g x vN vS w w4 W :=
  ⟨hz.le, by have := h.le; omega, Nat.le_of_lt hlt, hz.block, Kd.R_mono (Kd.R_bound h.ownN) (fun k hk => ⟨hk.1.1, by have := hk.2.1; omega⟩), Kd.R_mono (Kd.R_bound h.ownS) (fun k hk => ⟨hk.1.1, by have := hk.2.1; omega⟩), hz.below⟩

theorem SW.cells {A I : Nat} {kind : Int} {o : Bool} {x : StpS} {vN vS vO : Value} {w wr : World} (h : SW A I kind o x vN vS vO w wr) : wr.cell? ⟨A, 0, none⟩ = some (.int .i64 kind) ∧ wr.frozen? ⟨A, 0, none⟩ = false ∧ wr.cell? ⟨A, 1, none⟩ = some (vN) ∧ wr.frozen? ⟨A, 1, none⟩ = false ∧ wr.cell? ⟨A, 2, none⟩ = some (vS) ∧ wr.frozen? ⟨A, 2, none⟩ = false ∧ wr.cell? ⟨A, 3, none⟩ = some (.int .i64 0) ∧ wr.frozen? ⟨A, 3, none⟩ = false ∧ wr.cell? ⟨A, 4, none⟩ = some (.int .i64 0) ∧ wr.frozen? ⟨A, 4, none⟩ = false ∧ wr.cell? ⟨A, 5, none⟩ = some (.int .i64 0) ∧ wr.frozen? ⟨A, 5, none⟩ = false ∧ wr.cell? ⟨A, 6, none⟩ = some (.int .i64 0) ∧ wr.frozen? ⟨A, 6, none⟩ = false ∧ wr.cell? ⟨A, 7, none⟩ = some (.int .i64 0) ∧ wr.frozen? ⟨A, 7, none⟩ = false ∧ wr.cell? ⟨A, 8, none⟩ = some (.int .i64 0) ∧ wr.frozen? ⟨A, 8, none⟩ = false := ⟨cell_of_row wr _ 0 _ _ _ h.step, frozen_of_row wr _ 0 _ _ h.step, cell_of_row wr _ 1 _ _ _ h.step, frozen_of_row wr _ 1 _ _ h.step, cell_of_row wr _ 2 _ _ _ h.step, frozen_of_row wr _ 2 _ _ h.step, cell_of_row wr _ 3 _ _ _ h.step, frozen_of_row wr _ 3 _ _ h.step, cell_of_row wr _ 4 _ _ _ h.step, frozen_of_row wr _ 4 _ _ h.step, cell_of_row wr _ 5 _ _ _ h.step, frozen_of_row wr _ 5 _ _ h.step, cell_of_row wr _ 6 _ _ _ h.step, frozen_of_row wr _ 6 _ _ h.step, cell_of_row wr _ 7 _ _ _ h.step, frozen_of_row wr _ 7 _ _ h.step, cell_of_row wr _ 8 _ _ _ h.step, frozen_of_row wr _ 8 _ _ h.step⟩

theorem wants_o : ∀ k : Nat, k < 35 → ∀ c ∈ wantsOf k, (decide (111 ∈ wantsOf k) = true ↔ c = 111) := by
  have key : ∀ m : Fin 35, ∀ c ∈ wantsOf m.val, (decide (111 ∈ wantsOf m.val) = true ↔ c = 111) := by decide +kernel
  exact fun k hk => key ⟨k, hk⟩
theorem letterAt_mem {l : List UInt8} (h : 0 < l.length) (i : Nat) : letterAt l i ∈ l := by
  unfold letterAt
  rw [List.getD_eq_getElem?_getD, List.getElem?_eq_getElem (by omega)]
  exact List.getElem_mem _
theorem wants_some {k n : Nat} (hc : countedL (shapeT.getD k ([], [])).2 ((n : Int)) = true) (hn : 0 < n) : 0 < (wantsOf k).length := by
  unfold wantsOf
  split
  · simp
  · rcases Nat.eq_zero_or_pos (shapeT.getD k ([], [])).2.length with h | h
    · rw [List.eq_nil_of_length_eq_zero h] at hc
      simp only [countedL, beq_iff_eq] at hc
      omega
    · exact h
theorem takeS_len (c : UInt8) (s : ByteArray) (x : StpS) : (takeS c s x).1.N.length ≤ x.N.length + 1 ∧ (takeS c s x).1.S.length ≤ x.S.length + 1 ∧ (takeS c s x).1.O.length ≤ x.O.length + 1 := by
  unfold takeS
  split
  · simp
  · split <;> simp

/-- Ahead of word i of a step's words: the state so far. -/
def StepInv (A I k : Nat) (rest : List ByteArray) (w4 : World) (i : Nat) (W : World) : Prop :=
  ∃ x vN vS vO, SW A I k (decide (111 ∈ wantsOf k)) x vN vS vO w4 W ∧ eachS (wantsOf k) 0 rest ⟨[], [], []⟩ = eachS (wantsOf k) i (rest.drop i) x ∧ x.N.length ≤ i ∧ x.S.length ≤ i ∧ x.O.length ≤ i
def StepBad (k : Nat) (rest : List ByteArray) (w4 : World) (r : Int) (W : World) : Prop := (eachS (wantsOf k) 0 rest ⟨[], [], []⟩).2 = r ∧ Below w4.heap.size w4 W

theorem StepInv.start (k : Nat) (rest : List ByteArray) (w4 : World) :
    StepInv w4.heap.size (w4.heap.size + 1) k rest w4 0 ((w4.alloc (.cells #[.int .i64 (k : Int), .slice none 0 0, .slice none 0 0, .int .i64 0, .int .i64 0, .int .i64 0, .int .i64 0, .int .i64 0, .int .i64 0] 52)).alloc (.cells #[.slice none 0 0] 27)) := by
  refine ⟨⟨[], [], []⟩, .slice none 0 0, .slice none 0 0, .slice none 0 0, ⟨Nat.le_refl _, by omega, ?_, ?_, Kd.R_nil _ _ _ _ _, Kd.R_nil _ _ _ _ _, Kd.R_nil _ _ _ _ _, fun _ => rfl, fun _ => rfl, ?_⟩, rfl, Nat.le_refl _, Nat.le_refl _, Nat.le_refl _⟩
  · exact (Below.heap_alloc _ _ _ (by simp)).trans (heap_alloc_new w4 _)
  · have := heap_alloc_new (w4.alloc (.cells #[.int .i64 (k : Int), .slice none 0 0, .slice none 0 0, .int .i64 0, .int .i64 0, .int .i64 0, .int .i64 0, .int .i64 0, .int .i64 0] 52)) (.cells #[.slice none 0 0] 27)
    simpa using this
  · exact ((Below.refl _ _).alloc (Nat.le_refl _) _).alloc (by simp) _

theorem StepInv.next {A I k : Nat} (hk : k < 35) {rest : List ByteArray} {w4 : World} {i : Nat} {W : World} (h : StepInv A I k rest w4 i W) (hi : i < rest.length) (hw : 0 < (wantsOf k).length) (hl : rest.length ≤ 1073741824) (hs : (rest.getD i ByteArray.empty).size ≤ 140737488351232) :
    Calls Try.prog 71 #[.int .i32 ((letterAt (wantsOf k) i).toNat : Int), .string (rest.getD i ByteArray.empty), .pointer (some ⟨A, 0, none⟩), .pointer (some ⟨I, 0, none⟩)] W fun e W' => (e = .returned (.int .i64 0) ∧ StepInv A I k rest w4 (i + 1) W') ∨ (∃ r, e = .returned (.int .i64 r) ∧ r ≠ 0 ∧ StepBad k rest w4 r W') := by
  obtain ⟨x, vN, vS, vO, hS, he, h1, h2, h3⟩ := h
  have hd : rest.drop i = rest.getD i ByteArray.empty :: rest.drop (i + 1) := by
    rw [List.drop_eq_getElem_cons hi, List.getD_eq_getElem?_getD, List.getElem?_eq_getElem hi]; rfl
  rw [hd] at he
  generalize rest.getD i ByteArray.empty = s at *
  refine (stepC_calls A I k _ x vN vS vO w4 W (letterAt (wantsOf k) i) s hs hS (fun _ => wants_o k hk _ (letterAt_mem hw i)) ⟨by omega, by omega, by omega⟩).mono ?_
  rintro e W' ⟨rfl, v1, v2, v3, hS'⟩
  obtain ⟨l1, l2, l3⟩ := takeS_len (letterAt (wantsOf k) i) s x
  by_cases h0 : (takeS (letterAt (wantsOf k) i) s x).2 = 0
  · refine .inl ⟨by rw [h0], _, v1, v2, v3, hS', ?_, by omega, by omega, by omega⟩
    rw [he, eachS, if_pos h0]
  · refine .inr ⟨_, rfl, h0, ?_, hS'.below⟩
    rw [he, eachS, if_neg h0]

set_option maxHeartbeats 1000000 in
set_option maxRecDepth 100000 in
theorem step_calls (A : Option Addr) (c : Nat) (ws : List ByteArray) (w : World) (hr : Kd.C Kd.string w A ws.length ws) (hc : ws.length ≤ c) (hl : ws.length ≤ 1073741824) (hs : ∀ i, (ws.getD i ByteArray.empty).size ≤ 140737488351232) :
    Calls Try.prog 45 #[.slice A ws.length c] w (StepAns (stepP ws) w) := by
  have HR := Lib.hid hr
  have HS := Lib.hid hs
  clear hr hs
  have hu1 := Try.underlying52
  have hu2 := Try.underlying50
  by_cases h0 : ws = []
  · subst h0
    go_enter Try.func45, Try.ntmps45
    go_wp2_with fail
    have e : stepP [] = (z52, 300) := if_pos (.inl rfl)
    rw [e]
    exact step_end (x := (z52, 300)) rfl rfl (heap_alloc_new w _) (Kd.R_nil _ _ _ _ _) (Kd.R_nil _ _ _ _ _) ((Below.refl _ _).alloc (Nat.le_refl _) _)
  · have hz := ZW.start w
    obtain ⟨w1, hw1⟩ : ∃ w1, w.alloc (.cells #[.int .i64 0, .slice none 0 0, .slice none 0 0, .int .i64 0, .int .i64 0, .int .i64 0, .int .i64 0, .int .i64 0, .int .i64 0] 52) = w1 := ⟨_, rfl⟩
    have hpos : 0 < ws.length := List.length_pos_iff.2 h0
    obtain ⟨ad, e, hel⟩ := Kd.at_string (Kd.C_below HR.out hz.below) 0 (by omega) (by omega)
    subst e
    obtain ⟨w0, hw0⟩ : ∃ w0, ws.getD 0 ByteArray.empty = w0 := ⟨_, rfl⟩
    have hel2 : (w.alloc (.cells #[.int .i64 0, .slice none 0 0, .slice none 0 0, .int .i64 0, .int .i64 0, .int .i64 0, .int .i64 0, .int .i64 0, .int .i64 0] 52)).cell? ad = some (.string w0) := hw0 ▸ hel
    have HW0 := Lib.hid hw0
    rw [hw1] at hz hel2
    have HZ := Lib.hid hz
    clear hz hel hw0
    have hlen : decide ((ws.length : Int) > 0) = true := decide_eq_true (by omega)
    have hlen2 : decide (ws.length > 0) = true := decide_eq_true (by omega)
    go_enter Try.func45, Try.ntmps45
    go_wp2_with fail
    refine (named_calls w0 _).mono ?_
    rintro e w2 ⟨rfl, hb2⟩
    have HZ2 := Lib.hid (HZ.out.call hb2)
    clear hb2 hel2 hw1 HZ
    have hk35 := namedL_lt w0.data.toList
    by_cases hk : namedL w0.data.toList = 0
    · have e : stepP ws = (z52, 300) := by unfold stepP; rw [HW0.out]; exact if_pos (.inr (.inl hk))
      rw [e]
      have hkb : (((namedL w0.data.toList : Nat) : Int) == 0) = true := by rw [hk]; rfl
      have E := Lib.hid e
      obtain ⟨d0, f0, d1, f1, d2, f2, d3, f3, d4, f4, d5, f5, d6, f6, d7, f7, d8, f8⟩ := HZ2.out.cells
      clear e hk
      generalize namedL w0.data.toList = kd at *
      go_wp2_with fail
      obtain ⟨hbk, hbl⟩ := HZ2.out.put (.int .i64 0) (.slice none 0 0) (.slice none 0 0) (.int .i64 0) (.int .i64 0) (.int .i64 0) (.int .i64 0) (.int .i64 0) (.int .i64 0)
      rw [E.out]
      exact step_end (x := (z52, 300)) rfl rfl hbk (Kd.R_nil _ _ _ _ _) (Kd.R_nil _ _ _ _ _) hbl
    · have hkb : (((namedL w0.data.toList : Nat) : Int) == 0) = false := by rw [beq_eq_false_iff_ne]; omega
      have hat := shape_at _ hk35
      have hcl : wrap64 ((ws.length : Int) - 1) = (ws.length : Int) - 1 := IntWalk.wrap64_in _ ⟨by omega, by omega⟩
      have HCL := Lib.hid hcl
      have HK := Lib.hid (show namedL w0.data.toList ≠ 0 from hk)
      obtain ⟨kd, hkd⟩ : ∃ kd, namedL w0.data.toList = kd := ⟨_, rfl⟩
      rw [hkd] at hkb hat hk35 HK ⊢
      have HKD := Lib.hid hkd
      clear hcl hk hkd
      obtain ⟨av, hav⟩ : ∃ av, (Value.agg #[strV (shapeT.getD kd ([], [])).1, strV (shapeT.getD kd ([], [])).2]) = av := ⟨_, rfl⟩
      rw [hav] at hat
      have HAV := Lib.hid hav
      clear hav
      go_wp2_with fail
      refine (shapes_calls _).mono ?_
      rintro e w3 ⟨rfl, hb3⟩
      have HZ3 := Lib.hid (HZ2.out.call hb3)
      clear hb3 HZ2
      go_wp2_with fail
      have hcc := fun W => counted_calls kd hk35 ((ws.length : Int) - 1) (by omega) (by omega) W
      rw [HAV.out] at hcc
      refine (hcc _).mono ?_
      rintro e w4 ⟨rfl, hb4⟩
      have HZ4 := Lib.hid (HZ3.out.call hb4)
      clear hb4 HZ3 hcc
      cases hct : countedL (shapeT.getD kd ([], [])).2 ((ws.length : Int) - 1) with
      | false =>
        have e : stepP ws = (z52, 300) := by unfold stepP; rw [HW0.out, HKD.out]; exact if_pos (.inr (.inr hct))
        have E := Lib.hid e
        obtain ⟨d0, f0, d1, f1, d2, f2, d3, f3, d4, f4, d5, f5, d6, f6, d7, f7, d8, f8⟩ := HZ4.out.cells
        clear e hct
        go_wp2_with fail
        obtain ⟨hbk, hbl⟩ := HZ4.out.put (.int .i64 0) (.slice none 0 0) (.slice none 0 0) (.int .i64 0) (.int .i64 0) (.int .i64 0) (.int .i64 0) (.int .i64 0) (.int .i64 0)
        rw [E.out]
        exact step_end (x := (z52, 300)) rfl rfl hbk (Kd.R_nil _ _ _ _ _) (Kd.R_nil _ _ _ _ _) hbl
      | true =>
        go_wp2_with fail
        have hI0 := Lib.hid (StepInv.start kd (ws.drop 1) w4)
        have hIB : Below w4.heap.size w4 ((w4.alloc (.cells #[.int .i64 (kd : Int), .slice none 0 0, .slice none 0 0, .int .i64 0, .int .i64 0, .int .i64 0, .int .i64 0, .int .i64 0, .int .i64 0] 52)).alloc (.cells #[.slice none 0 0] 27)) := ((Below.refl _ _).alloc (Nat.le_refl _) _).alloc (by simp) _
        obtain ⟨w5, hw5⟩ : ∃ w5, (w4.alloc (.cells #[.int .i64 (kd : Int), .slice none 0 0, .slice none 0 0, .int .i64 0, .int .i64 0, .int .i64 0, .int .i64 0, .int .i64 0, .int .i64 0] 52)).alloc (.cells #[.slice none 0 0] 27) = w5 := ⟨_, rfl⟩
        rw [hw5] at hI0 hIB ⊢
        have HIB := Lib.hid hIB
        have hrl : (ws.drop 1).length = ws.length - 1 := by rw [List.length_drop]
        have hcn : 0 < (ws.drop 1).length → 0 < (wantsOf kd).length := fun hq => wants_some (n := ws.length - 1) (by rw [show (((ws.length - 1 : Nat) : Nat) : Int) = (ws.length : Int) - 1 by omega]; exact hct) (by omega)
        have hrs : ∀ i, ((ws.drop 1).getD i ByteArray.empty).size ≤ 140737488351232 := fun i => by
          have := HS.out (1 + i)
          rwa [List.getD_eq_getElem?_getD, List.getElem?_drop, ← List.getD_eq_getElem?_getD]
        have hrd : Kd.C Kd.string w4 (if c = 1 then some ad else some { block := ad.block, off := ad.off + 1 }) (ws.length - 1) (ws.drop 1) := by
          have hq := Kd.C_drop (m := 1) (Kd.C_below HR.out HZ4.out.below) (by omega) hc
          rw [hrl] at hq
          exact hq
        have hE : ∀ W, StepInv w4.heap.size (w4.heap.size + 1) kd (ws.drop 1) w4 0 W → Calls Try.prog 70 #[av, .slice (if c = 1 then some ad else some { block := ad.block, off := ad.off + 1 }) (ws.length - 1) (c - 1), .func (.func 71) #[] #[.pointer (some ⟨w4.heap.size, 0, none⟩), .pointer (some ⟨w4.heap.size + 1, 0, none⟩)]] W fun e w' =>
            (e = .returned (.int .i64 0) ∧ StepInv w4.heap.size (w4.heap.size + 1) kd (ws.drop 1) w4 (ws.length - 1) w') ∨ (∃ r, e = .returned (.int .i64 r) ∧ r ≠ 0 ∧ StepBad kd (ws.drop 1) w4 r w') := by
          intro W hW
          have h := seach_calls kd hk35 71 (.pointer (some ⟨w4.heap.size, 0, none⟩)) (.pointer (some ⟨w4.heap.size + 1, 0, none⟩)) (fun args W => enters_ Try.func71 (by kernel_rfl) rfl args W) (if c = 1 then some ad else some { block := ad.block, off := ad.off + 1 }) (c - 1) (ws.drop 1)
            (fun i W' => StepInv w4.heap.size (w4.heap.size + 1) kd (ws.drop 1) w4 i W') (fun r W' => StepBad kd (ws.drop 1) w4 r W') W hcn (by omega) (by omega)
            (fun i W1 W2 h hb => by obtain ⟨x, v1, v2, v3, hS, hr⟩ := h; exact ⟨x, v1, v2, v3, hS.call hb, hr⟩) (fun i W1 h => by obtain ⟨x, v1, v2, v3, hS, hr⟩ := h; rw [hrl]; exact Kd.C_below hrd hS.below) hW (fun i hi W1 h => h.next hk35 hi (hcn (by omega)) (by omega) (hrs i))
          rw [HAV.out, hrl] at h
          exact h
        have HE := Lib.hid hE
        have h1i : (1 : Int) ≤ (ws.length : Int) := by omega
        have HCT := Lib.hid hct
        clear hE hrd hrs hcn hrl hct
        refine start_ (n := 8) (S := fun w' => True) (ds := []) #[false, false, false, false, false, false, false, false] (by kernel_rfl) rfl rfl trivial (fun hHeld => ?_)
        refine pure_ (i := 1) (N := some 31) (v := ?_) (a' := ?_) #[false, true, false, false, false, false, false, false] rfl rfl (by kernel_rfl) (fun _ _ _ h => h) (Or.inl ⟨by rfl, ?_⟩) ?_ ?_
        rotate_left
        · intro w'
          go_simp
          with_reducible rfl
        rotate_left
        · simp only [Act.put, List.setIfInBounds_toArray, List.set_cons_zero, List.set_cons_succ, i64_w, i32_w]
          rfl
        refine pure_ (i := 3) (N := some 33) (v := ?_) (a' := ?_) #[false, true, false, true, false, false, false, false] rfl rfl (by kernel_rfl) (fun _ _ _ h => h) (Or.inl ⟨by rfl, ?_⟩) ?_ ?_
        rotate_left
        · intro w'
          go_simp
          with_reducible rfl
        rotate_left
        · simp only [Act.put, List.setIfInBounds_toArray, List.set_cons_zero, List.set_cons_succ, i64_w, i32_w]
          rfl
        refine pure_ (i := 4) (N := some 34) (v := ?_) (a' := ?_) #[false, true, false, true, true, false, false, false] rfl rfl (by kernel_rfl) (fun _ _ _ h => h) (Or.inl ⟨by rfl, ?_⟩) ?_ ?_
        rotate_left
        · intro w'
          go_simp
          with_reducible rfl
        rotate_left
        · simp only [Act.put, List.setIfInBounds_toArray, List.set_cons_zero, List.set_cons_succ, i64_w, i32_w]
          rfl
        refine pure_ (i := 5) (N := some 35) (v := ?_) (a' := ?_) #[false, true, false, true, true, true, false, false] rfl rfl (by kernel_rfl) (fun _ _ _ h => h) (Or.inl ⟨by rfl, ?_⟩) ?_ ?_
        rotate_left
        · intro w'
          go_simp
          with_reducible rfl
        rotate_left
        · simp only [Act.put, List.setIfInBounds_toArray, List.set_cons_zero, List.set_cons_succ, i64_w, i32_w]
          rfl
        refine one_ (i := 0) (N := some 30) #[true, true, false, true, true, true, false, false] rfl rfl (by kernel_rfl) (by decide) (fun K hK => ?_)
        refine goes_ Try.func26 (by kernel_rfl) rfl #[] (by rfl) rfl rfl (by simp only [List.map_toArray, List.map_nil]) ?_
        with_reducible refine (shapes_calls _).mono ?_
        rintro e w6 ⟨rfl, hb6⟩
        refine ⟨_, rfl, ?_⟩
        have HB6 := Lib.hid hb6
        clear hb6
        refine hK.out _ _ trivial (fun hHeld => ?_)
        clear hK K
        refine norm_ (a' := ?_) ?_ ?_
        rotate_left
        · show Act.put _ (some 30) _ = _
          simp only [Act.put, List.setIfInBounds_toArray, List.set_cons_zero, List.set_cons_succ, i64_w, i32_w]
          rfl
        refine take_ (i := 2) (N := some 32) (v := ?_) (a' := ?_) #[true, true, true, true, true, true, false, false] rfl rfl (by kernel_rfl) (fun _ _ _ h => h) (Or.inl ⟨by rfl, ?_⟩) hHeld ?_ ?_
        rotate_left
        · intro w' _
          go_simp
          with_reducible rfl
        rotate_left
        · simp only [Act.put, List.setIfInBounds_toArray, List.set_cons_zero, List.set_cons_succ, i64_w, i32_w]
          rfl
        refine one_ (i := 6) (N := some 36) #[true, true, true, true, true, true, true, false] rfl rfl (by kernel_rfl) (by decide) (fun K hK => ?_)
        refine goes_ Try.func70 (by kernel_rfl) rfl #[av, .slice (if c = 1 then some ad else some { block := ad.block, off := ad.off + 1 }) (ws.length - 1) (c - 1), .func (.func 71) #[] #[.pointer (some ⟨w4.heap.size, 0, none⟩), .pointer (some ⟨w4.heap.size + 1, 0, none⟩)]] (by rfl) rfl rfl (by simp only [List.map_toArray, List.map_cons, List.map_nil]; rfl) ?_
        refine (HE.out _ ?_).mono ?_
        · obtain ⟨x, v1, v2, v3, hS, hr⟩ := hI0.out
          exact ⟨x, v1, v2, v3, hS.call ⟨HB6.out.os, HB6.out.tape, HB6.out.output, HB6.out.size, HB6.out.block⟩, hr⟩
        rintro e w7 hh
        obtain ⟨r, rfl, hq⟩ : ∃ r, e = .returned (.int .i64 r) ∧ ((r = 0 ∧ StepInv w4.heap.size (w4.heap.size + 1) kd (ws.drop 1) w4 (ws.length - 1) w7) ∨ (r ≠ 0 ∧ StepBad kd (ws.drop 1) w4 r w7)) := by
          rcases hh with ⟨rfl, hh⟩ | ⟨r, rfl, hr, hh⟩
          · exact ⟨0, rfl, .inl ⟨rfl, hh⟩⟩
          · exact ⟨r, rfl, .inr ⟨hr, hh⟩⟩
        refine ⟨_, rfl, ?_⟩
        have HH := Lib.hid hq
        clear hq hh
        refine hK.out _ _ trivial (fun hHeld => ?_)
        clear hK K
        refine norm_ (a' := ?_) ?_ ?_
        rotate_left
        · show Act.put _ (some 36) _ = _
          simp only [Act.put, List.setIfInBounds_toArray, List.set_cons_zero, List.set_cons_succ, i64_w, i32_w]
          rfl
        refine pure_ (i := 7) (N := some 7) (v := ?_) (a' := ?_) #[true, true, true, true, true, true, true, true] rfl rfl (by kernel_rfl) (fun _ _ _ h => h) (Or.inl ⟨by rfl, ?_⟩) ?_ ?_
        rotate_left
        · intro w'
          go_simp
          with_reducible rfl
        rotate_left
        · simp only [Act.put, List.setIfInBounds_toArray, List.set_cons_zero, List.set_cons_succ, i64_w, i32_w]
          rfl
        refine done_ (by kernel_rfl) ?_
        clear HE
        generalize (if c = 1 then some ad else some { block := ad.block, off := ad.off + 1 } : Option Addr) = Ax
        have HNF := Lib.hid (show ¬ (ws = [] ∨ kd = 0 ∨ countedL (shapeT.getD kd ([], [])).2 ((ws.length : Int) - 1) = false) from fun h => by
          rcases h with h | h | h
          · exact h0 h
          · exact HK.out h
          · rw [HCT.out] at h; cases h)
        rcases HH.out with ⟨hr0, hI⟩ | ⟨hr0, hBd⟩
        · obtain ⟨x, vN, vS, vO, hS, he, -, -, hlO⟩ := hI
          have HZ7 := Lib.hid (HZ4.out.call hS.below)
          obtain ⟨Ao, co, e3, hlo, hCo⟩ := Kd.R_reads hS.ownO
          obtain ⟨An, nN, cN, eN⟩ : ∃ A n c, vN = .slice A n c := by obtain ⟨A, c, e⟩ := Kd.R_slice hS.ownN; exact ⟨_, _, _, e⟩
          obtain ⟨As, nS, cS, eS⟩ : ∃ A n c, vS = .slice A n c := by obtain ⟨A, c, e⟩ := Kd.R_slice hS.ownS; exact ⟨_, _, _, e⟩
          subst e3 hr0 eN eS
          have hrest : eachS (wantsOf kd) 0 (ws.drop 1) ⟨[], [], []⟩ = (x, 0) := by rw [he, List.drop_eq_nil_of_le (by rw [List.length_drop]; omega)]; rfl
          have e : stepP ws = (⟨(kd : Int), x.N, x.S, optsL x.O⟩, 0) := by unfold stepP; rw [HW0.out, HKD.out, if_neg HNF.out, hrest]; exact if_neg (fun h => h rfl)
          have E := Lib.hid e
          have HSW := Lib.hid hS
          have HCO := Lib.hid hCo
          have HLO := Lib.hid hlo
          have c0 := hS.cell 0
          have cO := hS.cellO
          clear he hrest e hS hCo HH hlo
          have hgl : w.heap.size < w4.heap.size := lt_of_block HZ4.out.block
          by_cases h6 : x.O.length = 6
          · obtain ⟨o0, o1, o2, o3, o4, o5, hO⟩ : ∃ o0 o1 o2 o3 o4 o5, x.O = [o0, o1, o2, o3, o4, o5] := by
              match x.O, h6 with
              | [o0, o1, o2, o3, o4, o5], _ => exact ⟨o0, o1, o2, o3, o4, o5, rfl⟩
            have hoL : optsL x.O = ⟨o0, o1, o2, o3, o4, o5⟩ := by rw [hO]; rfl
            have hC6 := HCO.out
            rw [hO] at hC6 h6
            have H6 := Lib.hid hC6
            have hl6 := HLO.out
            rw [hO] at hl6
            have hl6' : 6 ≤ co := hl6
            have hlen6 : x.O.length = 6 := by rw [hO]; rfl
            have HOL := Lib.hid hoL
            clear hO hoL hC6 h6 hl6
            go_wp2_with fail
            refine (play_opts.calls Ao co [o0, o1, o2, o3, o4, o5] o0 o1 o2 o3 o4 o5 _ H6.out hl6' rfl).mono ?_
            rintro e w8 ⟨rfl, hb8⟩
            have HSW8 := Lib.hid (HSW.out.call hb8)
            have HZ8 := Lib.hid (HZ7.out.call hb8)
            obtain ⟨d0, f0, d1, f1, d2, f2, d3, f3, d4, f4, d5, f5, d6, f6, d7, f7, d8, f8⟩ := HZ8.out.cells
            obtain ⟨a0, b0, a1, b1, a2, b2, a3, b3, a4, b4, a5, b5, a6, b6, a7, b7, a8, b8⟩ := HSW8.out.cells
            clear hb8 c0 cO HSW HZ7
            go_wp2_with fail
            obtain ⟨hbk, hN, hS, hbl⟩ := ((HSW8.out.fin HZ8.out hgl).six (.int .i64 o0) (.int .i64 o1) (.int .i64 o2) (.int .i64 o3) (.int .i64 o4) (.int .i64 o5)).fin (.int .i64 (kd : Int)) (.slice An nN cN) (.slice As nS cS) (.int .i64 o0) (.int .i64 o1) (.int .i64 o2) (.int .i64 o3) (.int .i64 o4) (.int .i64 o5)
            rw [E.out, HOL.out]
            exact step_end (x := (⟨(kd : Int), x.N, x.S, ⟨o0, o1, o2, o3, o4, o5⟩⟩, 0)) rfl rfl hbk hN hS hbl
          · have h6b : ((x.O.length : Int) == 6) = false := by rw [beq_eq_false_iff_ne]; omega
            have HOL := Lib.hid (show optsL x.O = z50 from if_neg h6)
            obtain ⟨d0, f0, d1, f1, d2, f2, d3, f3, d4, f4, d5, f5, d6, f6, d7, f7, d8, f8⟩ := HZ7.out.cells
            obtain ⟨a0, b0, a1, b1, a2, b2, a3, b3, a4, b4, a5, b5, a6, b6, a7, b7, a8, b8⟩ := HSW.out.cells
            clear c0 h6
            go_wp2_with fail
            obtain ⟨hbk, hN, hS, hbl⟩ := (HSW.out.fin HZ7.out hgl).fin (.int .i64 (kd : Int)) (.slice An nN cN) (.slice As nS cS) (.int .i64 0) (.int .i64 0) (.int .i64 0) (.int .i64 0) (.int .i64 0) (.int .i64 0)
            rw [E.out, HOL.out]
            exact step_end (x := (⟨(kd : Int), x.N, x.S, z50⟩, 0)) rfl rfl hbk hN hS hbl
        · have HZ7 := Lib.hid (HZ4.out.call hBd.2)
          have hrb : (r != 0) = true := by simpa using hr0
          have e : stepP ws = (z52, r) := by unfold stepP; rw [HW0.out, HKD.out, if_neg HNF.out, hBd.1]; exact if_pos hr0
          have E := Lib.hid e
          obtain ⟨d0, f0, d1, f1, d2, f2, d3, f3, d4, f4, d5, f5, d6, f6, d7, f7, d8, f8⟩ := HZ7.out.cells
          clear e hr0 hBd HH
          go_wp2_with fail
          obtain ⟨hbk, hbl⟩ := HZ7.out.put (.int .i64 0) (.slice none 0 0) (.slice none 0 0) (.int .i64 0) (.int .i64 0) (.int .i64 0) (.int .i64 0) (.int .i64 0) (.int .i64 0)
          rw [E.out]
          exact step_end (x := (z52, r)) rfl rfl hbk (Kd.R_nil _ _ _ _ _) (Kd.R_nil _ _ _ _ _) hbl
end Go.Proofs.Ytnpmkaklkonofaa.Txt
