/- Plain: the words of a step's line. -/
import Derived.Test.YtnpmkaklkonofaaGBase
import Derived.Test.YtnpmkaklkonofaaGStep
import Derived.Test.YtnpmkaklkonofaaGHand
import Derived.Test.YtnpmkaklkonofaaQx1
import Derived.Lib.OthersKept
set_option linter.unusedVariables false
set_option linter.unusedSimpArgs false
namespace Go.Proofs.Ytnpmkaklkonofaa.Txt

/-- How far the words are: those that stand, how many numbers and texts are behind. -/
structure WSt where
  out : List ByteArray
  a : Nat
  b : Nat

def wstep (N : List Int) (S : List ByteArray) (o : List Int) (x : WSt) (c : UInt8) : WSt :=
  if c = 110 then ⟨x.out ++ [decB (N.getD x.a 0)], x.a + 1, x.b⟩
  else if c = 115 then ⟨x.out ++ [escB (S.getD x.b ByteArray.empty)], x.a, x.b + 1⟩
  else if c = 111 then ⟨x.out ++ o.map decB, x.a, x.b⟩
  else if c = 78 then ⟨x.out ++ (N.drop x.a).map decB, max x.a N.length, x.b⟩
  else if c = 83 then ⟨x.out ++ (S.drop x.b).map escB, x.a, max x.b S.length⟩
  else x
def wordsOf (word wants : List UInt8) (N : List Int) (S : List ByteArray) (o : List Int) : WSt := wants.foldl (wstep N S o) ⟨[⟨word.toArray⟩], 0, 0⟩
def stepWords (kind : Nat) (N : List Int) (S : List ByteArray) (o : List Int) : List ByteArray := (wordsOf (shapeT.getD kind ([], [])).1 (shapeT.getD kind ([], [])).2 N S o).out

theorem wstep_bounds (N : List Int) (S : List ByteArray) (o : List Int) (x : WSt) (c : UInt8) :
    (wstep N S o x c).out.length ≤ x.out.length + 1 + o.length + N.length + S.length ∧ (wstep N S o x c).a ≤ x.a + 1 + N.length ∧ (wstep N S o x c).b ≤ x.b + 1 + S.length := by
  unfold wstep
  split
  · simp; omega
  · split
    · simp; omega
    · split
      · simp; omega
      · split
        · simp; omega
        · split
          · simp; omega
          · exact ⟨by omega, by omega, by omega⟩

end Go.Proofs.Ytnpmkaklkonofaa.Txt


/- play.words: the words of a step's line. -/
namespace Go.Proofs.Ytnpmkaklkonofaa.Txt
open Go.RowKit Go.Proofs.YtnpmkaklkonofaaW.PrintWords Go.Proofs.YtnpmkaklkonofaaW.PrintLast Go.Proofs.Ytnpmkaklkonofaa.Hand Go.Proofs.Ytnpmkaklkonofaa.Q

/-- What the loop over the shape knows of the world: the step's own variable in block A, the iterator in block I, the words in a row of the call's own. -/
structure WWorld (A I : Nat) (cs : Array Value) (ws : ByteArray) (pos : Nat) (v : Value) (out : List ByteArray) (w wr : World) : Prop where
  le : w.heap.size ≤ A
  lt : A < I
  step : wr.heap[A]? = some (.cells cs 52 (0, 0))
  iter : wr.heap[I]? = some (.stringIter ws pos)
  own : Kd.R Kd.string 9 wr w.heap.size (fun k => k ≠ A ∧ k ≠ I) v out
  below : Below w.heap.size w wr

theorem WWorld.call {A I : Nat} {cs : Array Value} {ws : ByteArray} {pos : Nat} {v : Value} {out : List ByteArray} {w wr w1 : World} (h : WWorld A I cs ws pos v out w wr) (hb : Below wr.heap.size wr w1) : WWorld A I cs ws pos v out w w1 :=
  ⟨h.le, h.lt, (hb.block _ (lt_of_block h.step)).trans h.step, (hb.block _ (lt_of_block h.iter)).trans h.iter, Kd.R_below h.own hb, h.below.trans (hb.mono h.below.size)⟩
theorem WWorld.drawn {A I : Nat} {cs : Array Value} {ws : ByteArray} {pos : Nat} {v : Value} {out : List ByteArray} {w wr w1 : World} (h : WWorld A I cs ws pos v out w wr) (hb : Drawn0 wr w1) : WWorld A I cs ws pos v out w w1 := h.call hb.below
theorem WWorld.append {A I : Nat} {cs : Array Value} {ws : ByteArray} {pos : Nat} {v v1 : Value} {out out1 : List ByteArray} {w wr w1 : World} (h : WWorld A I cs ws pos v out w wr)
    (ho : Kd.R Kd.string 9 w1 w.heap.size (fun k => k ≠ A ∧ k ≠ I) v1 out1) (hg : wr.grownBy w1 v.ownBlock) : WWorld A I cs ws pos v1 out1 w w1 := by
  obtain ⟨h0, inner, hown, _⟩ := h.own
  exact ⟨h.le, h.lt, (hg.block A (lt_of_block h.step) (fun e => (h0 A e.symm).1 rfl)).trans h.step, (hg.block I (lt_of_block h.iter) (fun e => (h0 I e.symm).2 rfl)).trans h.iter, ho, h.below.grown hg h.below.size (fun k hk => own_base hown k hk)⟩
theorem WWorld.next {A I : Nat} {cs : Array Value} {ws : ByteArray} {pos : Nat} {v : Value} {out : List ByteArray} {w wr : World} (h : WWorld A I cs ws pos v out w wr) (pos' : Nat) : WWorld A I cs ws pos' v out w (wr.iterAt I ws pos') := by
  have hl := h.lt
  have hle := h.le
  exact ⟨h.le, h.lt, (Lib.iterAt_other _ _ _ _ _ (by omega)).trans h.step, Lib.iterAt_heap _ _ _ _ _ h.iter, Kd.R_step h.own (fun k hk _ => Lib.iterAt_other _ _ _ _ _ hk.2), Lib.below_iterAt h.below (by omega) _ _⟩
theorem WWorld.cell {A I : Nat} {cs : Array Value} {ws : ByteArray} {pos : Nat} {v : Value} {out : List ByteArray} {w wr : World} (h : WWorld A I cs ws pos v out w wr) (j : Nat) : wr.cell? ⟨A, j, none⟩ = cs[j]? := cell_of_row wr _ _ _ _ _ h.step
theorem WWorld.fresh {A I : Nat} {cs : Array Value} {ws : ByteArray} {pos : Nat} {v : Value} {out : List ByteArray} {w wr : World} (h : WWorld A I cs ws pos v out w wr) : ∀ k, wr.heap.size ≤ k → k ≠ A ∧ k ≠ I := fun k hk => by
  have h1 := lt_of_block h.step
  have h2 := lt_of_block h.iter
  omega

theorem number_f (N : List Int) (a : Nat) : play_number.f N (a : Int) = some (N.getD a 0) := by
  unfold play_number.f
  by_cases h : a < N.length
  · rw [if_pos (by omega), if_pos (by omega)]
    simp [rd]
  · rw [if_neg (by omega)]
    rw [List.getD_eq_getElem?_getD, List.getElem?_eq_none (by omega)]; rfl
theorem word_f (S : List ByteArray) (a : Nat) : play_word.f S (a : Int) = some (S.getD a ByteArray.empty) := by
  unfold play_word.f
  by_cases h : a < S.length
  · rw [if_pos (by omega), if_pos (by omega)]
    simp [rdOf]
  · rw [if_neg (by omega)]
    rw [List.getD_eq_getElem?_getD, List.getElem?_eq_none (by omega)]; rfl

theorem bd_same {M a p : Nat} (h : a ≤ (p + 1) * M) : a ≤ (p + 1 + 1) * M := by rw [Nat.succ_mul (p + 1)]; omega
theorem bd_add {M a b p : Nat} (h : a ≤ (p + 1) * M) (hb : b ≤ M) : a + b ≤ (p + 1 + 1) * M := by rw [Nat.succ_mul (p + 1)]; omega
theorem bd_max {M a b p : Nat} (h : a ≤ (p + 1) * M) (hb : b ≤ M) : max a b ≤ (p + 1 + 1) * M := by rw [Nat.succ_mul (p + 1)]; omega
theorem bd_app {α : Type} {M : Nat} {l m : List α} {p : Nat} (h : l.length ≤ (p + 1) * M) (hb : m.length ≤ M) : (l ++ m).length ≤ (p + 1 + 1) * M := by rw [List.length_append, Nat.succ_mul (p + 1)]; omega

/-- The row of numbers stays while an append writes the row of words. -/
theorem R_other {W w1 : World} {b b' : Nat} {ok ok' : Nat → Prop} {vn v : Value} {ns : List Int} {xs : List ByteArray} (hn : Kd.R (Kd.int .i64) 3 W b ok vn ns) (hv : Kd.R Kd.string 9 W b' ok' v xs) (hg : W.grownBy w1 v.ownBlock) : Kd.R (Kd.int .i64) 3 w1 b (fun _ => True) vn ns := by
  obtain ⟨h0, inner, hown, _⟩ := hv
  cases hb : v.ownBlock with
  | none =>
    rw [hb] at hg
    exact Kd.R_mono (Kd.R_grown hn hg (fun _ _ => by simp)) (fun _ _ => trivial)
  | some g =>
    rw [hb] at hg
    obtain ⟨cells, hc⟩ := own_typed hown g hb
    have h1 := Kd.R_types hn hc (fun q hq => by
      have hE : (Kd.int .i64).E = [] := rfl
      rw [hE] at hq
      have : q = 3 := by simpa using hq
      omega)
    exact Kd.R_mono (Kd.R_grown h1 hg (fun k hk e => hk.2 (by simpa using e))) (fun _ _ => trivial)

/-- Behind the table's making and the making of the variable f, in either order. -/
structure FSh (W : World) (g : Nat) (w' : World) : Prop where
  below : Below W.heap.size W w'
  le : W.heap.size ≤ g
  block : w'.heap[g]? = some (.cells #[.string ⟨#[]⟩, .string ⟨#[]⟩] 60 (0, 0))
theorem FSh.one {W w3 : World} (hb : Below W.drew.heap.size W.drew w3) : FSh W w3.heap.size (w3.alloc (.cells #[.string ⟨#[]⟩, .string ⟨#[]⟩] 60)) :=
  have hb' : Below W.heap.size W w3 := ⟨hb.os, hb.tape, hb.output, hb.size, hb.block⟩
  ⟨hb'.alloc hb'.size _, hb'.size, heap_alloc_new w3 _⟩
theorem FSh.two {W w3 : World} (hb : Below (W.alloc (.cells #[.string ⟨#[]⟩, .string ⟨#[]⟩] 60)).drew.heap.size (W.alloc (.cells #[.string ⟨#[]⟩, .string ⟨#[]⟩] 60)).drew w3) : FSh W W.heap.size w3 :=
  have hs : (W.alloc (.cells #[.string ⟨#[]⟩, .string ⟨#[]⟩] 60)).heap.size = W.heap.size + 1 := by simp
  have hb' : Below (W.heap.size + 1) (W.alloc (.cells #[.string ⟨#[]⟩, .string ⟨#[]⟩] 60)) w3 := ⟨hb.os, hb.tape, hb.output, hb.size, fun k hk => hb.block k (by show k < (W.alloc _).heap.size; omega)⟩
  ⟨((Below.refl W.heap.size W).alloc (Nat.le_refl _) _).trans (hb'.mono (by omega)), Nat.le_refl _, (hb'.block _ (by omega)).trans (heap_alloc_new W _)⟩

set_option maxHeartbeats 1000000 in
set_option maxRecDepth 100000 in
theorem words_calls (kind : Nat) (hk : kind < 35) (N : List Int) (S : List ByteArray) (o0 o1 o2 o3 o4 o5 : Int) (AN AS : Option Addr) (cN cS : Nat) (w : World)
    (hN : Kd.C (Kd.int .i64) w AN N.length N) (hcN : N.length ≤ cN) (hS : Kd.C Kd.string w AS S.length S) (hcS : S.length ≤ cS)
    (hNr : ∀ i, -9223372036854775808 ≤ N.getD i 0 ∧ N.getD i 0 ≤ 9223372036854775807) (hOr : ∀ x ∈ [o0, o1, o2, o3, o4, o5], -9223372036854775808 ≤ x ∧ x ≤ 9223372036854775807) (hSr : ∀ i, (S.getD i ByteArray.empty).size ≤ 35184372088832) (hNl : N.length ≤ 1073741824) (hSl : S.length ≤ 1073741824) :
    Calls Try.prog 29 #[.agg #[.int .i64 (kind : Int), .slice AN N.length cN, .slice AS S.length cS, .int .i64 o0, .int .i64 o1, .int .i64 o2, .int .i64 o3, .int .i64 o4, .int .i64 o5]] w fun e w' =>
      ∃ v, e = .returned v ∧ Kd.R Kd.string 9 w' w.heap.size (fun _ => True) v (stepWords kind N S [o0, o1, o2, o3, o4, o5]) ∧ Below w.heap.size w w' := by
  obtain ⟨wd, wt, hwt, hat⟩ : ∃ wd wt : ByteArray, (wd = ⟨(shapeT.getD kind ([], [])).1.toArray⟩ ∧ wt = ⟨(shapeT.getD kind ([], [])).2.toArray⟩) ∧ ∀ W : World, (Instr.index 61 (.agg shapeV) (.int .i64 (kind : Int))).run Try.prog W = .ok (.agg #[.string wd, .string wt]) W := ⟨_, _, ⟨rfl, rfl⟩, shape_at kind hk⟩
  have HWT := Lib.hid hwt
  clear hwt
  have HN := Lib.hid hN
  have HS := Lib.hid hS
  clear hN hS
  have hu := Try.underlying50
  go_enter Try.func29, Try.ntmps29
  go_wp2_with fail
  obtain ⟨W, hW, hA, hB⟩ : ∃ W, w.alloc (.cells #[.int .i64 (kind : Int), .slice AN N.length cN, .slice AS S.length cS, .int .i64 o0, .int .i64 o1, .int .i64 o2, .int .i64 o3, .int .i64 o4, .int .i64 o5] 52) = W ∧ W.heap[w.heap.size]? = some (.cells #[.int .i64 (kind : Int), .slice AN N.length cN, .slice AS S.length cS, .int .i64 o0, .int .i64 o1, .int .i64 o2, .int .i64 o3, .int .i64 o4, .int .i64 o5] 52 (0, 0)) ∧ Below w.heap.size w W := ⟨_, rfl, heap_alloc_new w _, (Below.refl _ _).alloc (Nat.le_refl _) _⟩
  rw [hW]
  have c0 : W.cell? ⟨w.heap.size, 0, none⟩ = some (.int .i64 (kind : Int)) := cell_of_row W _ 0 _ _ _ hA
  have HA := Lib.hid hA
  have HB := Lib.hid hB
  clear hW hA hB
  refine start_ (n := 6) (S := fun w' => w'.cell? ⟨w.heap.size, 0, none⟩ = some (.int .i64 (kind : Int))) (ds := [5]) #[false, false, false, false, false, false] (by kernel_rfl) rfl rfl (by go_simp) (fun hHeld => ?_)
  refine pure_ (i := 1) (N := some 12) (v := ?_) (a' := ?_) #[false, true, false, false, false, false] rfl rfl (by kernel_rfl) (fun _ _ _ h => h) (Or.inl ⟨by rfl, ?_⟩) ?_ ?_
  rotate_left
  · intro w'
    go_simp
    with_reducible rfl
  rotate_left
  · simp only [Act.put, List.setIfInBounds_toArray, List.set_cons_zero, List.set_cons_succ, i64_w, i32_w]
    rfl
  refine take_ (i := 2) (N := some 13) (v := ?_) (a' := ?_) #[false, true, true, false, false, false] rfl rfl (by kernel_rfl) (fun _ _ _ h => h) (Or.inl ⟨by rfl, ?_⟩) hHeld ?_ ?_
  rotate_left
  · intro w' s0
    go_simp
    with_reducible rfl
  rotate_left
  · simp only [Act.put, List.setIfInBounds_toArray, List.set_cons_zero, List.set_cons_succ, i64_w, i32_w]
    rfl
  refine join_ (σ := Nat) 1 #[true, true, true, true, true, false] (fun g => [(11, .agg shapeV), (14, .agg #[.string wd, .string wt]), (3, .pointer (some ⟨g, 0, none⟩))]) (fun g w' => FSh W g w') ?_ ?_
  rotate_left
  · intro hCont
    refine two_ (i := 0) (j := 4) (Ni := some 11) (Nj := some 3) #[true, true, true, false, false, false] #[false, true, true, false, true, false] rfl rfl rfl rfl (by kernel_rfl) (by decide) (by decide) (fun K hK => ?_) (fun K hK => ?_)
    · skip
      refine goes_ Try.func26 (by kernel_rfl) rfl #[] (by rfl) rfl rfl (by simp only [List.map_toArray, List.map_nil]) ?_
      with_reducible refine (shapes_calls _).mono ?_
      rintro e w3 ⟨rfl, hb⟩
      refine ⟨_, rfl, ?_⟩
      refine hK.out _ _ ((hb.cell (World.block_lt_of_cell? _ _ hHeld)).trans hHeld) (fun hHeld => ?_)
      clear hK K
      refine norm_ (a' := ?_) ?_ ?_
      rotate_left
      · show Act.put _ (some 11) _ = _
        simp only [Act.put, List.setIfInBounds_toArray, List.set_cons_zero, List.set_cons_succ, i64_w, i32_w]
        rfl
      refine take_ (i := 3) (N := some 14) (v := ?_) (a' := ?_) #[true, true, true, true, false, false] rfl rfl (by kernel_rfl) (fun _ _ _ h => h) (Or.inl ⟨by rfl, ?_⟩) hHeld ?_ ?_
      rotate_left
      · intro w' s0
        go_simp
        with_reducible rfl
      rotate_left
      · simp only [Act.put, List.setIfInBounds_toArray, List.set_cons_zero, List.set_cons_succ, i64_w, i32_w]
        rfl
      refine one_ (i := 4) (N := some 3) #[true, true, true, true, true, false] rfl rfl (by kernel_rfl) (by decide) (fun K hK => ?_)
      refine value_ (w1 := ?_) (v := ?_) (by rfl) rfl ?_ ?_
      rotate_left 2
      · go_simp
        constructor
        · rfl
        · rfl
      refine hK.out _ _ ((World.cell?_alloc_past _ _ _ (World.block_lt_of_cell? _ _ hHeld)).trans hHeld) (fun hHeld => ?_)
      clear hK K
      refine norm_ (a' := ?_) ?_ ?_
      rotate_left
      · show Act.put _ (some 3) _ = _
        simp only [Act.put, List.setIfInBounds_toArray, List.set_cons_zero, List.set_cons_succ, i64_w, i32_w]
        rfl
      exact norm_ (by simp only [putAll, Act.put, List.setIfInBounds_toArray, List.set_cons_zero, List.set_cons_succ]) (hCont _ _ (FSh.one hb))
    · skip
      refine value_ (w1 := ?_) (v := ?_) (by rfl) rfl ?_ ?_
      rotate_left 2
      · go_simp
        constructor
        · rfl
        · rfl
      refine hK.out _ _ ((World.cell?_alloc_past _ _ _ (World.block_lt_of_cell? _ _ hHeld)).trans hHeld) (fun hHeld => ?_)
      clear hK K
      refine norm_ (a' := ?_) ?_ ?_
      rotate_left
      · show Act.put _ (some 3) _ = _
        simp only [Act.put, List.setIfInBounds_toArray, List.set_cons_zero, List.set_cons_succ, i64_w, i32_w]
        rfl
      refine one_ (i := 0) (N := some 11) #[true, true, true, false, true, false] rfl rfl (by kernel_rfl) (by decide) (fun K hK => ?_)
      refine goes_ Try.func26 (by kernel_rfl) rfl #[] (by rfl) rfl rfl (by simp only [List.map_toArray, List.map_nil]) ?_
      with_reducible refine (shapes_calls _).mono ?_
      rintro e w3 ⟨rfl, hb⟩
      refine ⟨_, rfl, ?_⟩
      refine hK.out _ _ ((hb.cell (World.block_lt_of_cell? _ _ hHeld)).trans hHeld) (fun hHeld => ?_)
      clear hK K
      refine norm_ (a' := ?_) ?_ ?_
      rotate_left
      · show Act.put _ (some 11) _ = _
        simp only [Act.put, List.setIfInBounds_toArray, List.set_cons_zero, List.set_cons_succ, i64_w, i32_w]
        rfl
      refine take_ (i := 3) (N := some 14) (v := ?_) (a' := ?_) #[true, true, true, true, true, false] rfl rfl (by kernel_rfl) (fun _ _ _ h => h) (Or.inl ⟨by rfl, ?_⟩) hHeld ?_ ?_
      rotate_left
      · intro w' s0
        go_simp
        with_reducible rfl
      rotate_left
      · simp only [Act.put, List.setIfInBounds_toArray, List.set_cons_zero, List.set_cons_succ, i64_w, i32_w]
        rfl
      exact norm_ (by simp only [putAll, Act.put, List.setIfInBounds_toArray, List.set_cons_zero, List.set_cons_succ]) (hCont _ _ (FSh.two hb))
  rintro g w4 hF
  have hHeld : w4.cell? ⟨w.heap.size, 0, none⟩ = some (.int .i64 (kind : Int)) := (hF.below.cell (World.block_lt_of_cell? _ _ c0)).trans c0
  have d0 : w4.cell? ⟨g, 0, none⟩ = some (.string ⟨#[]⟩) := cell_of_row w4 _ 0 _ _ _ hF.block
  have d1 : w4.cell? ⟨g, 1, none⟩ = some (.string ⟨#[]⟩) := cell_of_row w4 _ 1 _ _ _ hF.block
  have f0 : w4.frozen? ⟨g, 0, none⟩ = false := frozen_of_row w4 _ 0 _ _ hF.block
  have f1 : w4.frozen? ⟨g, 1, none⟩ = false := frozen_of_row w4 _ 1 _ _ hF.block
  refine norm_ (a' := ?_) ?_ ?_
  rotate_left
  · simp only [putAll, Act.put, List.setIfInBounds_toArray, List.set_cons_zero, List.set_cons_succ]
    rfl
  refine last_ (i := 5) (N := none) #[true, true, true, true, true, true] rfl rfl (by kernel_rfl) (by decide) (fun K hK => ?_)
  refine skip_ (w1 := ?_) (by rfl) rfl ?_ ?_
  rotate_left
  · go_simp
    rfl
  refine hK.out _ _ ?_
  clear hK K
  refine done_ (by kernel_rfl) ?_
  have hg := hF.le
  have hAl := lt_of_block HA.out
  have hx := Lib.hid hF
  obtain ⟨W5, hW5, k0, k1, hA5, hB5⟩ : ∃ W5, (w4.setCell ⟨g, 0, none⟩ (.string wd)).setCell ⟨g, 1, none⟩ (.string wt) = W5 ∧ W5.cell? ⟨g, 0, none⟩ = some (.string wd) ∧ W5.cell? ⟨g, 1, none⟩ = some (.string wt) ∧ W5.heap[w.heap.size]? = some (.cells #[.int .i64 (kind : Int), .slice AN N.length cN, .slice AS S.length cS, .int .i64 o0, .int .i64 o1, .int .i64 o2, .int .i64 o3, .int .i64 o4, .int .i64 o5] 52 (0, 0)) ∧ Below w.heap.size w W5 := by
    refine ⟨_, rfl, ?_, ?_, ?_, ?_⟩
    · go_simp
    · go_simp
    · rw [heap_setCell_other _ _ _ _ (by show w.heap.size ≠ g; omega), heap_setCell_other _ _ _ _ (by show w.heap.size ≠ g; omega)]
      exact (hx.out.below.block _ hAl).trans HA.out
    · exact ((HB.out.trans (hx.out.below.mono (by omega))).setCell (p := ⟨g, 0, none⟩) (by show w.heap.size ≤ g; omega) _).setCell (p := ⟨g, 1, none⟩) (by show w.heap.size ≤ g; omega) _
  rw [hW5]
  have HA5 := Lib.hid hA5
  have HB5 := Lib.hid hB5
  clear hW5 hA5 hB5 hF hg hAl hx d0 d1 f0 f1 hHeld c0 hat HA HB
  have hgl : g < W5.heap.size := World.block_lt_of_cell? _ _ k0
  have HNr := Lib.hid hNr
  have HOr := Lib.hid hOr
  have HSr := Lib.hid hSr
  have hwl : wt.size ≤ 5 := by rw [HWT.out.2, ← dsize]; exact (wants_ok kind hk).2
  have hwc : Hid (∀ i (hi : i < wt.size), wt[i] = 110 ∨ wt[i] = 115 ∨ wt[i] = 111 ∨ wt[i] = 78 ∨ wt[i] = 83) := fun i hi => (wants_ok kind hk).1 _ (by
    have : wt.data.toList = (shapeT.getD kind ([], [])).2 := by rw [HWT.out.2]
    rw [← this]
    exact List.getElem_mem (by rw [dsize]; exact hi))
  clear hNr hOr hSr
  go_wp2
  have hst : Hid (WWorld w.heap.size (W5.heap.size + 1) #[.int .i64 (kind : Int), .slice AN N.length cN, .slice AS S.length cS, .int .i64 o0, .int .i64 o1, .int .i64 o2, .int .i64 o3, .int .i64 o4, .int .i64 o5] wt 0 (.slice (some ⟨W5.heap.size, 0, none⟩) 1 1) [wd] w ((W5.alloc (.cells #[.string wd] 9)).iter wt 0)) := by
    have hA := lt_of_block HA5.out
    refine ⟨Nat.le_refl _, by omega, ?_, ?_, ?_, ?_⟩
    · exact (Below.heap_alloc _ _ _ (by simp; omega)).trans ((Below.heap_alloc _ _ _ hA).trans HA5.out)
    · have := World.iter_heap (W5.alloc (.cells #[.string wd] 9)) wt 0
      simpa using this
    · have h1 := own_lit_of (enc := Value.string) W5 w.heap.size 9 [wd] HB5.out.size (by simp)
      exact Kd.R_of_own (h1.alloc _) (fun k hk => by
        have : k = W5.heap.size := by simpa [Value.ownBlock] using hk.symm
        omega)
    · exact (HB5.out.alloc HB5.out.size _).alloc (by have := HB5.out.size; simp; omega) _
  generalize W5.heap.size + 1 = I at *
  clear k0 k1 HA5 HB5 hgl hHeld
  have hu9 := Try.underlying28
  obtain ⟨OS, hOS⟩ : ∃ OS, OS = [o0, o1, o2, o3, o4, o5] := ⟨_, rfl⟩
  have HOS := Lib.hid hOS
  rw [← hOS] at HOr
  clear hOS
  go_loopg [4, 5, 6] wt.size (fun gk v4 v5 v6 wr => ∃ (x : WSt) (pos : Nat), v5 = .int .i64 x.a ∧ v6 = .int .i64 x.b ∧ gk + pos = wt.size ∧ x.out.length ≤ (pos + 1) * 3000000000 ∧ x.a ≤ (pos + 1) * 3000000000 ∧ x.b ≤ (pos + 1) * 3000000000 ∧ Hid (x = (wt.data.toList.take pos).foldl (wstep N S OS) ⟨[wd], 0, 0⟩) ∧ Hid (WWorld w.heap.size I #[.int .i64 (kind : Int), .slice AN N.length cN, .slice AS S.length cS, .int .i64 o0, .int .i64 o1, .int .i64 o2, .int .i64 o3, .int .i64 o4, .int .i64 o5] wt pos v4 x.out w wr))
  case atStart => exact ⟨⟨[wd], 0, 0⟩, 0, rfl, rfl, by omega, by simp, by simp, by simp, rfl, hst⟩
  case round =>
    clear hst
    obtain ⟨x, pos, rfl, rfl, hgp, hx1, hx2, hx3, HX, HW⟩ := hrel
    by_cases hlt : pos < wt.size
    · obtain ⟨gk', rfl⟩ : ∃ m, gk = m + 1 := ⟨gk - 1, by omega⟩
      have hnx : ∀ ty, (Instr.next (.pointer (some ⟨I, 0, none⟩)) true ty).run Try.prog wr = .ok (.tuple #[.bool true, .int .i64 pos, .int .i32 ((wt[pos]).toNat : Int)]) (wr.iterAt I wt (pos + 1)) := fun ty => Lib.run_next_ascii_at wr I wt pos ty HW.out.iter hlt (by rcases hwc.out pos hlt with h | h | h | h | h <;> rw [h] <;> decide)
      have hWn := Lib.hid (HW.out.next (pos + 1))
      have hfold : Hid (wstep N S OS x wt[pos] = (wt.data.toList.take (pos + 1)).foldl (wstep N S OS) ⟨[wd], 0, 0⟩) := by
        show _ = _
        rw [take_next wt pos hlt, List.foldl_append, ← HX.out]; rfl
      clear HX
      rcases hwc.out pos hlt with hc | hc | hc | hc | hc
      · have hs : wstep N S OS x wt[pos] = ⟨x.out ++ [decB (N.getD x.a 0)], x.a + 1, x.b⟩ := by rw [hc]; rfl
        have hf2 : Hid (⟨x.out ++ [decB (N.getD x.a 0)], x.a + 1, x.b⟩ = (wt.data.toList.take (pos + 1)).foldl (wstep N S OS) ⟨[wd], 0, 0⟩) := hs.symm.trans hfold.out
        have g1 : ((wt[pos].toNat : Int) == 110) = true := by rw [hc]; rfl
        have HDn := Lib.hid (HNr.out x.a)
        have Hnf := Lib.hid (number_f N x.a)
        generalize N.getD x.a 0 = nv at *
        generalize hW1 : wr.iterAt I wt (pos + 1) = W1 at *
        have c1 : W1.cell? ⟨w.heap.size, 1, none⟩ = some (.slice AN N.length cN) := hWn.out.cell 1
        clear hs hfold hc hW1 HW
        go_wp2_with fail
        refine (play_number.calls AN cN N (x.a : Int) nv _ (Kd.C_below HN.out hWn.out.below) hcN Hnf.out).mono ?_
        rintro e w6 ⟨rfl, hd⟩
        have hW6 := Lib.hid (hWn.out.drawn hd)
        clear hd
        go_wp2_with fail
        refine (dec_calls nv _ HDn.out.1 HDn.out.2).mono ?_
        rintro e w7 ⟨rfl, hb7⟩
        have hW7 := Lib.hid (hW6.out.call hb7)
        clear hb7
        go_wp2_with (at_builtin; refine Kd.R_append Kd.string (w0 := w) w.heap.size rfl _ _ 28 9 (.string ⟨#[]⟩) 16 rfl Try.underlying28 info9 rfl (by decide) (by omega) u4 x.out (decB nv) [.string (decB nv)] (fun k => k ≠ w.heap.size ∧ k ≠ I) (fun _ => False) rfl rfl rfl (fun _ hk => hk.elim) hW7.out.fresh hW7.out.own hW7.out.below hW7.out.below.size (by omega) ?_; intro v1 w8 ho hb hg hat; have hW8 := Lib.hid (hW7.out.append ho hg); clear ho hb hg hat)
        go_roundg gk'
        case rel => exact ⟨⟨x.out ++ [decB nv], x.a + 1, x.b⟩, pos + 1, by go_num, rfl, by omega, bd_app hx1 (Nat.le_of_ble_eq_true rfl), bd_add hx2 (Nat.le_of_ble_eq_true rfl), bd_same hx3, hf2, hW8⟩
        case measure => omega
      · have hs : wstep N S OS x wt[pos] = ⟨x.out ++ [escB (S.getD x.b ByteArray.empty)], x.a, x.b + 1⟩ := by rw [hc]; rfl
        have hf2 : Hid (⟨x.out ++ [escB (S.getD x.b ByteArray.empty)], x.a, x.b + 1⟩ = (wt.data.toList.take (pos + 1)).foldl (wstep N S OS) ⟨[wd], 0, 0⟩) := hs.symm.trans hfold.out
        have g1 : ((wt[pos].toNat : Int) == 110) = false := by rw [hc]; rfl
        have g2 : ((wt[pos].toNat : Int) == 115) = true := by rw [hc]; rfl
        have HDn := Lib.hid (HSr.out x.b)
        have Hnf := Lib.hid (word_f S x.b)
        generalize S.getD x.b ByteArray.empty = nv at *
        generalize hW1 : wr.iterAt I wt (pos + 1) = W1 at *
        have c1 : W1.cell? ⟨w.heap.size, 2, none⟩ = some (.slice AS S.length cS) := hWn.out.cell 2
        clear hs hfold hc hW1 HW
        go_wp2_with fail
        refine (play_word.calls AS cS S (x.b : Int) nv _ (Kd.C_below HS.out hWn.out.below) hcS Hnf.out).mono ?_
        rintro e w6 ⟨rfl, hd⟩
        have hW6 := Lib.hid (hWn.out.drawn hd)
        clear hd
        go_wp2_with fail
        refine (esc_calls nv _ HDn.out).mono ?_
        rintro e w7 ⟨rfl, hb7⟩
        have hW7 := Lib.hid (hW6.out.call hb7)
        clear hb7
        go_wp2_with (at_builtin; refine Kd.R_append Kd.string (w0 := w) w.heap.size rfl _ _ 28 9 (.string ⟨#[]⟩) 16 rfl Try.underlying28 info9 rfl (by decide) (by omega) u4 x.out (escB nv) [.string (escB nv)] (fun k => k ≠ w.heap.size ∧ k ≠ I) (fun _ => False) rfl rfl rfl (fun _ hk => hk.elim) hW7.out.fresh hW7.out.own hW7.out.below hW7.out.below.size (by omega) ?_; intro v1 w8 ho hb hg hat; have hW8 := Lib.hid (hW7.out.append ho hg); clear ho hb hg hat)
        go_roundg gk'
        case rel => exact ⟨⟨x.out ++ [escB nv], x.a, x.b + 1⟩, pos + 1, rfl, by go_num, by omega, bd_app hx1 (Nat.le_of_ble_eq_true rfl), bd_same hx2, bd_add hx3 (Nat.le_of_ble_eq_true rfl), hf2, hW8⟩
        case measure => omega
      · have hs : wstep N S OS x wt[pos] = ⟨x.out ++ OS.map decB, x.a, x.b⟩ := by rw [hc]; rfl
        have hf2 : Hid (⟨x.out ++ OS.map decB, x.a, x.b⟩ = (wt.data.toList.take (pos + 1)).foldl (wstep N S OS) ⟨[wd], 0, 0⟩) := hs.symm.trans hfold.out
        have g1 : ((wt[pos].toNat : Int) == 110) = false := by rw [hc]; rfl
        have g2 : ((wt[pos].toNat : Int) == 115) = false := by rw [hc]; rfl
        have g3 : ((wt[pos].toNat : Int) == 111) = true := by rw [hc]; rfl
        generalize hW1 : wr.iterAt I wt (pos + 1) = W1 at *
        have c3 : W1.cell? ⟨w.heap.size, 3, none⟩ = some (.int .i64 o0) := hWn.out.cell 3
        have c4 : W1.cell? ⟨w.heap.size, 4, none⟩ = some (.int .i64 o1) := hWn.out.cell 4
        have c5 : W1.cell? ⟨w.heap.size, 5, none⟩ = some (.int .i64 o2) := hWn.out.cell 5
        have c6 : W1.cell? ⟨w.heap.size, 6, none⟩ = some (.int .i64 o3) := hWn.out.cell 6
        have c7 : W1.cell? ⟨w.heap.size, 7, none⟩ = some (.int .i64 o4) := hWn.out.cell 7
        have c8 : W1.cell? ⟨w.heap.size, 8, none⟩ = some (.int .i64 o5) := hWn.out.cell 8
        clear hs hfold hc hW1 HW
        go_wp2_with fail
        refine (play_numbers.calls o0 o1 o2 o3 o4 o5 OS _ (by rw [HOS.out]; rfl)).mono ?_
        rintro e w6 ⟨vn, rfl, hR, hb6⟩
        have hOl : OS.length = 6 := by rw [HOS.out]; rfl
        obtain ⟨An, cn, rfl, _, _⟩ := Kd.R_reads hR
        have hW6 := Lib.hid (hWn.out.call hb6)
        have HR := Lib.hid hR
        clear hR hb6 c3 c4 c5 c6 c7 c8 hWn
        go_wp2_with fail
        go_loopg [4, 10, 55] 6 (fun gj v4 v10 v55 wr => ∃ j : Nat, v55 = .int .i64 j ∧ gj + j = 6 ∧ Hid (∃ b, Kd.R (Kd.int .i64) 3 wr b (fun _ => True) (.slice An OS.length cn) OS) ∧ Hid (WWorld w.heap.size I #[.int .i64 (kind : Int), .slice AN N.length cN, .slice AS S.length cS, .int .i64 o0, .int .i64 o1, .int .i64 o2, .int .i64 o3, .int .i64 o4, .int .i64 o5] wt (pos + 1) v4 (x.out ++ (OS.take j).map decB) w wr))
        case atStart => exact ⟨0, rfl, rfl, ⟨_, HR.out⟩, by rw [List.take_zero, List.map_nil, List.append_nil]; exact hW6⟩
        case round =>
          obtain ⟨j, rfl, hgj, HRj, HWj⟩ := hrel
          by_cases hlj : j < 6
          · obtain ⟨gj', rfl⟩ : ∃ m, gk = m + 1 := ⟨gk - 1, by omega⟩
            obtain ⟨bn, hRn⟩ := HRj.out
            have HRn := Lib.hid hRn
            obtain ⟨_, _, hCn⟩ := Kd.R_reads' hRn
            obtain ⟨ad, e, hel⟩ := Kd.at_int hCn (j : Int) (by omega) (by omega)
            subst e
            have hel2 : wr.cell? (ad.add j) = some (.int .i64 (OS.getD j 0)) := by simpa [rd] using hel
            have hts : OS.take (j + 1) = OS.take j ++ [OS.getD j 0] := by have := drop_take_succ OS 0 0 j (by omega) (by omega); simpa using this
            have HDn : Hid (-9223372036854775808 ≤ OS.getD j 0 ∧ OS.getD j 0 ≤ 9223372036854775807) := HOr.out _ (by rw [List.getD_eq_getElem?_getD, List.getElem?_eq_getElem (by omega)]; exact List.getElem_mem _)
            have HTS := Lib.hid (show x.out ++ (OS.take (j + 1)).map decB = (x.out ++ (OS.take j).map decB) ++ [decB (OS.getD j 0)] by rw [hts, List.map_append, List.append_assoc]; rfl)
            have hlo : (x.out ++ (OS.take j).map decB).length ≤ 100000000000 := by
              rw [List.length_append, List.length_map]
              have := List.length_take_le j OS
              omega
            have hOl2 : (j : Int) < (OS.length : Int) := by omega
            generalize OS.getD j 0 = nv at *
            generalize x.out ++ (OS.take j).map decB = acc at *
            have HOl := Lib.hid hOl
            clear hel hts hRn hCn hOl HRj
            go_wp2_with fail
            refine (dec_calls nv _ HDn.out.1 HDn.out.2).mono ?_
            rintro e w7 ⟨rfl, hb7⟩
            have hW7 := Lib.hid (HWj.out.call hb7)
            have hR7 := Lib.hid (Kd.R_below HRn.out hb7)
            clear hb7 hel2
            go_wp2_with (at_builtin; refine Kd.R_append Kd.string (w0 := w) w.heap.size rfl _ _ 28 9 (.string ⟨#[]⟩) 16 rfl Try.underlying28 info9 rfl (by decide) (by omega) u4 acc (decB nv) [.string (decB nv)] (fun k => k ≠ w.heap.size ∧ k ≠ I) (fun _ => False) rfl rfl rfl (fun _ hk => hk.elim) hW7.out.fresh hW7.out.own hW7.out.below hW7.out.below.size (by omega) ?_; intro v1 w8 ho hb hg hat; have hW8 := Lib.hid (hW7.out.append ho hg); have hR8 := Lib.hid (R_other hR7.out hW7.out.own hg); clear ho hb hg hat)
            go_roundg gj'
            case rel => exact ⟨j + 1, by go_num, by omega, ⟨_, hR8.out⟩, by rw [HTS.out]; exact hW8⟩
            case measure => omega
          · have hall : Hid (WWorld w.heap.size I #[.int .i64 (kind : Int), .slice AN N.length cN, .slice AS S.length cS, .int .i64 o0, .int .i64 o1, .int .i64 o2, .int .i64 o3, .int .i64 o4, .int .i64 o5] wt (pos + 1) u4 (x.out ++ OS.map decB) w wr) := by
              have := HWj.out
              rwa [List.take_of_length_le (by omega)] at this
            have hl3 : (OS.map decB).length ≤ 3000000000 := by rw [List.length_map]; omega
            have hOl2 : ¬ (j : Int) < (OS.length : Int) := by omega
            clear HWj HRj hOl
            go_wp2
            go_roundg gk'
            case rel => exact ⟨⟨x.out ++ OS.map decB, x.a, x.b⟩, pos + 1, rfl, rfl, by omega, bd_app hx1 hl3, bd_same hx2, bd_same hx3, hf2, hall⟩
            case measure => omega
      · have hs : wstep N S OS x wt[pos] = ⟨x.out ++ (N.drop x.a).map decB, max x.a N.length, x.b⟩ := by rw [hc]; rfl
        have hf2 : Hid (⟨x.out ++ (N.drop x.a).map decB, max x.a N.length, x.b⟩ = (wt.data.toList.take (pos + 1)).foldl (wstep N S OS) ⟨[wd], 0, 0⟩) := hs.symm.trans hfold.out
        have g1 : ((wt[pos].toNat : Int) == 110) = false := by rw [hc]; rfl
        have g2 : ((wt[pos].toNat : Int) == 115) = false := by rw [hc]; rfl
        have g3 : ((wt[pos].toNat : Int) == 111) = false := by rw [hc]; rfl
        have g4 : ((wt[pos].toNat : Int) == 78) = true := by rw [hc]; rfl
        generalize hW1 : wr.iterAt I wt (pos + 1) = W1 at *
        clear hs hfold hc hW1 HW
        go_wp2_with fail
        go_loopg [4, 5] (N.length - x.a) (fun gj v4 v5 wr => ∃ j : Nat, v5 = .int .i64 j ∧ x.a ≤ j ∧ j ≤ max x.a N.length ∧ gj = N.length - j ∧ Hid (WWorld w.heap.size I #[.int .i64 (kind : Int), .slice AN N.length cN, .slice AS S.length cS, .int .i64 o0, .int .i64 o1, .int .i64 o2, .int .i64 o3, .int .i64 o4, .int .i64 o5] wt (pos + 1) v4 (x.out ++ ((N.drop x.a).take (j - x.a)).map decB) w wr))
        case atStart => exact ⟨x.a, rfl, by omega, by omega, rfl, by rw [Nat.sub_self, List.take_zero, List.map_nil, List.append_nil]; exact hWn⟩
        case round =>
          obtain ⟨j, rfl, hj1, hj2, hgj, HWj⟩ := hrel
          have c1 : wr.cell? ⟨w.heap.size, 1, none⟩ = some (.slice AN N.length cN) := HWj.out.cell 1
          by_cases hlj : j < N.length
          · obtain ⟨gj', rfl⟩ : ∃ m, gk = m + 1 := ⟨gk - 1, by omega⟩
            obtain ⟨ad, e, hel⟩ := Kd.at_int (Kd.C_below HN.out HWj.out.below) (j : Int) (by omega) (by omega)
            subst e
            have hel2 : wr.cell? (ad.add j) = some (.int .i64 (N.getD j 0)) := by simpa [rd] using hel
            have hts := drop_take_succ N 0 x.a j hj1 hlj
            have HDn := Lib.hid (HNr.out j)
            have HTS := Lib.hid (show x.out ++ ((N.drop x.a).take (j + 1 - x.a)).map decB = (x.out ++ ((N.drop x.a).take (j - x.a)).map decB) ++ [decB (N.getD j 0)] by rw [hts, List.map_append, List.append_assoc]; rfl)
            have hlo : (x.out ++ ((N.drop x.a).take (j - x.a)).map decB).length ≤ 100000000000 := by
              rw [List.length_append, List.length_map]
              have := List.length_take_le (j - x.a) (N.drop x.a)
              omega
            generalize N.getD j 0 = nv at *
            generalize x.out ++ ((N.drop x.a).take (j - x.a)).map decB = acc at *
            clear hel hts
            go_wp2_with fail
            refine (dec_calls nv _ HDn.out.1 HDn.out.2).mono ?_
            rintro e w7 ⟨rfl, hb7⟩
            have hW7 := Lib.hid (HWj.out.call hb7)
            clear hb7 c1 hel2
            go_wp2_with (at_builtin; refine Kd.R_append Kd.string (w0 := w) w.heap.size rfl _ _ 28 9 (.string ⟨#[]⟩) 16 rfl Try.underlying28 info9 rfl (by decide) (by omega) u4 acc (decB nv) [.string (decB nv)] (fun k => k ≠ w.heap.size ∧ k ≠ I) (fun _ => False) rfl rfl rfl (fun _ hk => hk.elim) hW7.out.fresh hW7.out.own hW7.out.below hW7.out.below.size (by omega) ?_; intro v1 w8 ho hb hg hat; have hW8 := Lib.hid (hW7.out.append ho hg); clear ho hb hg hat)
            go_roundg gj'
            case rel => exact ⟨j + 1, by go_num, by omega, by omega, by omega, by rw [HTS.out]; exact hW8⟩
            case measure => omega
          · have hje : j = max x.a N.length := by omega
            have hall : Hid (WWorld w.heap.size I #[.int .i64 (kind : Int), .slice AN N.length cN, .slice AS S.length cS, .int .i64 o0, .int .i64 o1, .int .i64 o2, .int .i64 o3, .int .i64 o4, .int .i64 o5] wt (pos + 1) u4 (x.out ++ (N.drop x.a).map decB) w wr) := by
              have := HWj.out
              rwa [List.take_of_length_le (by rw [List.length_drop]; omega)] at this
            have hj3 := Lib.hid hje
            have hl3 : ((N.drop x.a).map decB).length ≤ 3000000000 := by rw [List.length_map, List.length_drop]; omega
            clear hje HWj
            go_wp2
            go_roundg gk'
            case rel => exact ⟨⟨x.out ++ (N.drop x.a).map decB, max x.a N.length, x.b⟩, pos + 1, by rw [hj3.out], rfl, by omega, bd_app hx1 hl3, bd_max hx2 (by omega), bd_same hx3, hf2, hall⟩
            case measure => omega
      · have hs : wstep N S OS x wt[pos] = ⟨x.out ++ (S.drop x.b).map escB, x.a, max x.b S.length⟩ := by rw [hc]; rfl
        have hf2 : Hid (⟨x.out ++ (S.drop x.b).map escB, x.a, max x.b S.length⟩ = (wt.data.toList.take (pos + 1)).foldl (wstep N S OS) ⟨[wd], 0, 0⟩) := hs.symm.trans hfold.out
        have g1 : ((wt[pos].toNat : Int) == 110) = false := by rw [hc]; rfl
        have g2 : ((wt[pos].toNat : Int) == 115) = false := by rw [hc]; rfl
        have g3 : ((wt[pos].toNat : Int) == 111) = false := by rw [hc]; rfl
        have g4 : ((wt[pos].toNat : Int) == 78) = false := by rw [hc]; rfl
        have g5 : ((wt[pos].toNat : Int) == 83) = true := by rw [hc]; rfl
        generalize hW1 : wr.iterAt I wt (pos + 1) = W1 at *
        clear hs hfold hc hW1 HW
        go_wp2_with fail
        go_loopg [4, 6] (S.length - x.b) (fun gj v4 v6 wr => ∃ j : Nat, v6 = .int .i64 j ∧ x.b ≤ j ∧ j ≤ max x.b S.length ∧ gj = S.length - j ∧ Hid (WWorld w.heap.size I #[.int .i64 (kind : Int), .slice AN N.length cN, .slice AS S.length cS, .int .i64 o0, .int .i64 o1, .int .i64 o2, .int .i64 o3, .int .i64 o4, .int .i64 o5] wt (pos + 1) v4 (x.out ++ ((S.drop x.b).take (j - x.b)).map escB) w wr))
        case atStart => exact ⟨x.b, rfl, by omega, by omega, rfl, by rw [Nat.sub_self, List.take_zero, List.map_nil, List.append_nil]; exact hWn⟩
        case round =>
          obtain ⟨j, rfl, hj1, hj2, hgj, HWj⟩ := hrel
          have c1 : wr.cell? ⟨w.heap.size, 2, none⟩ = some (.slice AS S.length cS) := HWj.out.cell 2
          by_cases hlj : j < S.length
          · obtain ⟨gj', rfl⟩ : ∃ m, gk = m + 1 := ⟨gk - 1, by omega⟩
            obtain ⟨ad, e, hel⟩ := Kd.at_string (Kd.C_below HS.out HWj.out.below) (j : Int) (by omega) (by omega)
            subst e
            have hel2 : wr.cell? (ad.add j) = some (.string (S.getD j ByteArray.empty)) := by simpa [rdOf] using hel
            have hts := drop_take_succ S ByteArray.empty x.b j hj1 hlj
            have HDn := Lib.hid (HSr.out j)
            have HTS := Lib.hid (show x.out ++ ((S.drop x.b).take (j + 1 - x.b)).map escB = (x.out ++ ((S.drop x.b).take (j - x.b)).map escB) ++ [escB (S.getD j ByteArray.empty)] by rw [hts, List.map_append, List.append_assoc]; rfl)
            have hlo : (x.out ++ ((S.drop x.b).take (j - x.b)).map escB).length ≤ 100000000000 := by
              rw [List.length_append, List.length_map]
              have := List.length_take_le (j - x.b) (S.drop x.b)
              omega
            generalize S.getD j ByteArray.empty = nv at *
            generalize x.out ++ ((S.drop x.b).take (j - x.b)).map escB = acc at *
            clear hel hts
            go_wp2_with fail
            refine (esc_calls nv _ HDn.out).mono ?_
            rintro e w7 ⟨rfl, hb7⟩
            have hW7 := Lib.hid (HWj.out.call hb7)
            clear hb7 c1 hel2
            go_wp2_with (at_builtin; refine Kd.R_append Kd.string (w0 := w) w.heap.size rfl _ _ 28 9 (.string ⟨#[]⟩) 16 rfl Try.underlying28 info9 rfl (by decide) (by omega) u4 acc (escB nv) [.string (escB nv)] (fun k => k ≠ w.heap.size ∧ k ≠ I) (fun _ => False) rfl rfl rfl (fun _ hk => hk.elim) hW7.out.fresh hW7.out.own hW7.out.below hW7.out.below.size (by omega) ?_; intro v1 w8 ho hb hg hat; have hW8 := Lib.hid (hW7.out.append ho hg); clear ho hb hg hat)
            go_roundg gj'
            case rel => exact ⟨j + 1, by go_num, by omega, by omega, by omega, by rw [HTS.out]; exact hW8⟩
            case measure => omega
          · have hje : j = max x.b S.length := by omega
            have hall : Hid (WWorld w.heap.size I #[.int .i64 (kind : Int), .slice AN N.length cN, .slice AS S.length cS, .int .i64 o0, .int .i64 o1, .int .i64 o2, .int .i64 o3, .int .i64 o4, .int .i64 o5] wt (pos + 1) u4 (x.out ++ (S.drop x.b).map escB) w wr) := by
              have := HWj.out
              rwa [List.take_of_length_le (by rw [List.length_drop]; omega)] at this
            have hj3 := Lib.hid hje
            have hl3 : ((S.drop x.b).map escB).length ≤ 3000000000 := by rw [List.length_map, List.length_drop]; omega
            clear hje HWj
            go_wp2
            go_roundg gk'
            case rel => exact ⟨⟨x.out ++ (S.drop x.b).map escB, x.a, max x.b S.length⟩, pos + 1, rfl, by rw [hj3.out], by omega, bd_app hx1 hl3, bd_same hx2, bd_max hx3 (by omega), hf2, hall⟩
            case measure => omega
    · obtain rfl : pos = wt.size := by omega
      have hnx : ∀ ty, (Instr.next (.pointer (some ⟨I, 0, none⟩)) true ty).run Try.prog wr = .ok (.tuple #[.bool false]) wr := fun ty => Lib.run_next_end_at wr I wt wt.size ty HW.out.iter (by omega)
      go_wp2
      go_ret
      refine ⟨_, rfl, ?_, HW.out.below⟩
      have e : x.out = stepWords kind N S [o0, o1, o2, o3, o4, o5] := by
        rw [HX.out, List.take_of_length_le (by rw [dsize]; omega)]
        unfold stepWords wordsOf
        rw [HOS.out, HWT.out.1, HWT.out.2]
      rw [← e]
      exact Kd.R_mono HW.out.own (fun _ _ => trivial)

end Go.Proofs.Ytnpmkaklkonofaa.Txt


/- play.Text: the script of steps. -/
namespace Go.Proofs.Ytnpmkaklkonofaa.Txt
open Go.RowKit Go.Proofs.YtnpmkaklkonofaaW.PrintWords Go.Proofs.YtnpmkaklkonofaaW.PrintLast Go.Proofs.Ytnpmkaklkonofaa.Hand Go.Proofs.Ytnpmkaklkonofaa.Q

def optsOf (s : S52) : List Int := [s.f3.f0, s.f3.f1, s.f3.f2, s.f3.f3, s.f3.f4, s.f3.f5]
def inI64 (x : Int) : Bool := decide (-9223372036854775808 ≤ x ∧ x ≤ 9223372036854775807)
/-- A step whose numbers are int's and whose texts are not too long. -/
def okStep (s : S52) : Bool := decide (s.f1.length ≤ 1073741824) && decide (s.f2.length ≤ 1073741824) && s.f1.all inI64 && (optsOf s).all inI64 && s.f2.all (fun x => decide (x.size ≤ 35184372088832))
/-- A step's line; of a kind that there is not: nothing. -/
def stepLine (s : S52) : List UInt8 := if 1 ≤ s.f0 ∧ s.f0 < 35 then joinL (stepWords s.f0.toNat s.f1 s.f2 (optsOf s)) ⟨#[32]⟩ ++ [10] else []
def textL (l : List S52) : List UInt8 := l.flatMap stepLine

theorem okStep_spec {s : S52} (h : okStep s = true) : s.f1.length ≤ 1073741824 ∧ s.f2.length ≤ 1073741824 ∧ (∀ i, -9223372036854775808 ≤ s.f1.getD i 0 ∧ s.f1.getD i 0 ≤ 9223372036854775807) ∧ (∀ x ∈ optsOf s, -9223372036854775808 ≤ x ∧ x ≤ 9223372036854775807) ∧ ∀ i, (s.f2.getD i ByteArray.empty).size ≤ 35184372088832 := by
  simp only [okStep, Bool.and_eq_true, decide_eq_true_eq, List.all_eq_true, inI64] at h
  obtain ⟨⟨⟨⟨h1, h2⟩, h3⟩, h4⟩, h5⟩ := h
  refine ⟨h1, h2, fun i => ?_, h4, fun i => ?_⟩
  · rw [List.getD_eq_getElem?_getD]
    cases hi : s.f1[i]? with
    | none => exact ⟨by decide, by decide⟩
    | some y => exact h3 y (List.mem_of_getElem? hi)
  · rw [List.getD_eq_getElem?_getD]
    cases hi : s.f2[i]? with
    | none => exact Nat.zero_le _
    | some y => exact h5 y (List.mem_of_getElem? hi)

theorem fold_len (N : List Int) (S : List ByteArray) (o : List Int) : ∀ (cs : List UInt8) (x : WSt), (cs.foldl (wstep N S o) x).out.length ≤ x.out.length + cs.length * (1 + o.length + N.length + S.length)
  | [], x => by simp
  | c :: cs, x => by
    have h1 := fold_len N S o cs (wstep N S o x c)
    have h2 := (wstep_bounds N S o x c).1
    rw [List.foldl_cons, List.length_cons, Nat.succ_mul]
    omega
theorem stepWords_len (kind : Nat) (hk : kind < 35) (N : List Int) (S : List ByteArray) (o : List Int) : (stepWords kind N S o).length ≤ 1 + 5 * (1 + o.length + N.length + S.length) := by
  have h1 := fold_len N S o (shapeT.getD kind ([], [])).2 ⟨[⟨(shapeT.getD kind ([], [])).1.toArray⟩], 0, 0⟩
  have h2 := (wants_ok kind hk).2
  have h3 := Nat.mul_le_mul_right (1 + o.length + N.length + S.length) h2
  unfold stepWords wordsOf
  simp only [List.length_singleton] at h1
  omega

theorem words_calls' (x : Int) (kind : Nat) (hx : x = kind) (hk : kind < 35) (N : List Int) (S : List ByteArray) (o0 o1 o2 o3 o4 o5 : Int) (AN AS : Option Addr) (cN cS : Nat) (w : World)
    (hN : Kd.C (Kd.int .i64) w AN N.length N) (hcN : N.length ≤ cN) (hS : Kd.C Kd.string w AS S.length S) (hcS : S.length ≤ cS)
    (hNr : ∀ i, -9223372036854775808 ≤ N.getD i 0 ∧ N.getD i 0 ≤ 9223372036854775807) (hOr : ∀ x ∈ [o0, o1, o2, o3, o4, o5], -9223372036854775808 ≤ x ∧ x ≤ 9223372036854775807) (hSr : ∀ i, (S.getD i ByteArray.empty).size ≤ 35184372088832) (hNl : N.length ≤ 1073741824) (hSl : S.length ≤ 1073741824) :
    Calls Try.prog 29 #[.agg #[.int .i64 x, .slice AN N.length cN, .slice AS S.length cS, .int .i64 o0, .int .i64 o1, .int .i64 o2, .int .i64 o3, .int .i64 o4, .int .i64 o5]] w fun e w' =>
      ∃ v, e = .returned v ∧ Kd.R Kd.string 9 w' w.heap.size (fun _ => True) v (stepWords kind N S [o0, o1, o2, o3, o4, o5]) ∧ Below w.heap.size w w' := by
  subst hx
  exact words_calls kind hk N S o0 o1 o2 o3 o4 o5 AN AS cN cS w hN hcN hS hcS hNr hOr hSr hNl hSl

/-- The builder holds these bytes. -/
structure TWorld (b : Nat) (acc : List UInt8) (w wr : World) : Prop where
  isB : Lib.IsBuilder 58 5 w.heap.size b (Lib.byteCells acc) wr
  below : Below w.heap.size w wr
theorem isB_call {B b : Nat} {bs : List Value} {wr w1 : World} (h : Lib.IsBuilder 58 5 B b bs wr) (hb : Below wr.heap.size wr w1) : Lib.IsBuilder 58 5 B b bs w1 := by
  have one : ∀ p, Lib.BuilderAt 58 5 B b p bs wr → Lib.BuilderAt 58 5 B b p bs w1 := by
    rintro p ⟨h1, v, h2, h3, h4⟩
    exact ⟨h1, v, (hb.block _ (lt_of_block h2)).trans h2, pw_own_below h3 hb, h4⟩
  exact h.imp (one _) (one _)
theorem TWorld.call {b : Nat} {acc : List UInt8} {w wr w1 : World} (h : TWorld b acc w wr) (hb : Below wr.heap.size wr w1) : TWorld b acc w w1 := ⟨isB_call h.isB hb, h.below.trans (hb.mono h.below.size)⟩
theorem TWorld.write {b : Nat} {acc acc' : List UInt8} {w wr w1 : World} (h : TWorld b acc w wr) (hI : Lib.BuilderAt 58 5 w.heap.size b (.pointer (some ⟨b, 0, none⟩)) (Lib.byteCells acc') w1) (hb : Below w.heap.size wr w1) : TWorld b acc' w w1 := ⟨.inr hI, h.below.trans hb⟩

set_option maxHeartbeats 1000000 in
set_option maxRecDepth 100000 in
theorem text_calls (A : Option Addr) (c : Nat) (l : List S52) (w : World) (hr : Kd.C k52 w A l.length l) (hc : l.length ≤ c) (hok : ∀ s ∈ l, okStep s = true) (hlen : (textL l).length ≤ 100000000000000) :
    Calls Try.prog 8 #[.slice A l.length c] w fun e w' => e = .returned (.string ⟨(textL l).toArray⟩) ∧ Below w.heap.size w w' := by
  have HR := Lib.hid hr
  have HOK := Lib.hid hok
  have hl63 : (l.length : Int) ≤ 9223372036854775807 := by have := hr.2.1; omega
  clear hr hok
  go_enter Try.func8, Try.ntmps8
  go_wp2
  have hst : Hid (TWorld w.heap.size [] w (w.alloc (.cells #[.pointer none, .slice none 0 0] 58))) :=
    ⟨.inl ⟨Nat.le_refl _, .slice none 0 0, heap_alloc_new w _, own_nil _ _ _ _, by simp [Value.ownBlock]⟩, (Below.refl _ _).alloc (Nat.le_refl _) _⟩
  go_loopg [8] l.length (fun gk v8 wr => ∃ i : Int, v8 = .int .i64 i ∧ 0 ≤ i ∧ i ≤ l.length ∧ gk + i.toNat = l.length ∧ Hid (TWorld w.heap.size ((l.take i.toNat).flatMap stepLine) w wr))
  case atStart => exact ⟨0, rfl, by omega, by omega, by simp, hst⟩
  case round =>
    clear hst
    obtain ⟨i, rfl, hi0, hi1, hgk, HW⟩ := hrel
    by_cases hlt : i < l.length
    · obtain ⟨gk', rfl⟩ : ∃ m, gk = m + 1 := ⟨gk - 1, by omega⟩
      obtain ⟨ad, A1, c1, A2, c2, e, h0, h1, h2, h3, h4, h5, h6, h7, h8, l1, g1, l2, g2⟩ := at_T52 (Kd.C_below HR.out HW.out.below) i hi0 hlt
      subst e
      have hmem : rd_T52 l i ∈ l := by
        unfold rd_T52
        rw [List.getD_eq_getElem?_getD, List.getElem?_eq_getElem (by omega)]
        exact List.getElem_mem _
      have hok := okStep_spec (HOK.out _ hmem)
      have hnext : l.take (i.toNat + 1) = l.take i.toNat ++ [rd_T52 l i] := by
        rw [List.take_succ_eq_append_getElem (by omega)]
        unfold rd_T52
        rw [List.getD_eq_getElem?_getD, List.getElem?_eq_getElem (by omega)]; rfl
      have hacc : (l.take (i.toNat + 1)).flatMap stepLine = (l.take i.toNat).flatMap stepLine ++ stepLine (rd_T52 l i) := by rw [hnext, List.flatMap_append]; simp
      have hall : ((l.take (i.toNat + 1)).flatMap stepLine).length ≤ (textL l).length := by
        have e : textL l = (l.take (i.toNat + 1)).flatMap stepLine ++ (l.drop (i.toNat + 1)).flatMap stepLine := by rw [← List.flatMap_append, List.take_append_drop]; rfl
        rw [e, List.length_append]; omega
      rw [hacc, List.length_append] at hall
      have HACC := Lib.hid hacc
      clear hnext hacc hmem
      generalize rd_T52 l i = s at *
      generalize (l.take i.toNat).flatMap stepLine = acc at *
      have HOKs := Lib.hid hok
      have G1 := Lib.hid g1
      have G2 := Lib.hid g2
      have hall2 : acc.length + (stepLine s).length ≤ 100000000000000 := by omega
      clear hok g1 g2 hall hlen
      go_wp2_with fail
      obtain ⟨W, hW, hA, hB⟩ : ∃ W, wr.alloc (.cells #[.int .i64 s.f0, .slice A1 s.f1.length c1, .slice A2 s.f2.length c2, .int .i64 s.f3.f0, .int .i64 s.f3.f1, .int .i64 s.f3.f2, .int .i64 s.f3.f3, .int .i64 s.f3.f4, .int .i64 s.f3.f5] 52) = W ∧ W.heap[wr.heap.size]? = some (.cells #[.int .i64 s.f0, .slice A1 s.f1.length c1, .slice A2 s.f2.length c2, .int .i64 s.f3.f0, .int .i64 s.f3.f1, .int .i64 s.f3.f2, .int .i64 s.f3.f3, .int .i64 s.f3.f4, .int .i64 s.f3.f5] 52 (0, 0)) ∧ Below wr.heap.size wr W := ⟨_, rfl, heap_alloc_new wr _, (Below.refl _ _).alloc (Nat.le_refl _) _⟩
      rw [hW]
      have hT := Lib.hid (HW.out.call hB)
      have HA := Lib.hid hA
      have HB := Lib.hid hB
      have b0 : W.cell? ⟨wr.heap.size, 0, none⟩ = some (.int .i64 s.f0) := cell_of_row W _ 0 _ _ _ hA
      clear hW hA hB h0 h1 h2 h3 h4 h5 h6 h7 h8 HW
      by_cases hk1 : 1 ≤ s.f0
      · have k1 : decide (s.f0 ≥ 1) = true := decide_eq_true hk1
        by_cases hk2 : s.f0 < 35
        · have k2 : decide (s.f0 < 35) = true := decide_eq_true hk2
          refine start_ (n := 10) (S := fun w' => w'.cell? ⟨wr.heap.size, 0, none⟩ = some (.int .i64 s.f0)) (ds := []) #[false, false, false, false, false, false, false, false, false, false] (by kernel_rfl) rfl rfl (by go_simp) (fun hHeld => ?_)
          refine pure_ (i := 0) (N := some 12) (v := ?_) (a' := ?_) #[true, false, false, false, false, false, false, false, false, false] rfl rfl (by kernel_rfl) (fun _ _ _ h => h) (Or.inl ⟨by rfl, ?_⟩) ?_ ?_
          rotate_left
          · intro w'
            go_simp
            with_reducible rfl
          rotate_left
          · simp only [Act.put, List.setIfInBounds_toArray, List.set_cons_zero, List.set_cons_succ, i64_w, i32_w]
            rfl
          refine take_ (i := 1) (N := some 13) (v := ?_) (a' := ?_) #[true, true, false, false, false, false, false, false, false, false] rfl rfl (by kernel_rfl) (fun _ _ _ h => h) (Or.inl ⟨by rfl, ?_⟩) hHeld ?_ ?_
          rotate_left
          · intro w' s0
            go_simp
            with_reducible rfl
          rotate_left
          · simp only [Act.put, List.setIfInBounds_toArray, List.set_cons_zero, List.set_cons_succ, i64_w, i32_w]
            rfl
          refine pure_ (i := 2) (N := some 14) (v := ?_) (a' := ?_) #[true, true, true, false, false, false, false, false, false, false] rfl rfl (by kernel_rfl) (fun _ _ _ h => h) (Or.inl ⟨by rfl, ?_⟩) ?_ ?_
          rotate_left
          · intro w'
            go_simp
            with_reducible rfl
          rotate_left
          · simp only [Act.put, List.setIfInBounds_toArray, List.set_cons_zero, List.set_cons_succ, i64_w, i32_w]
            rfl
          refine pure_ (i := 3) (N := some 15) (v := ?_) (a' := ?_) #[true, true, true, true, false, false, false, false, false, false] rfl rfl (by kernel_rfl) (fun _ _ _ h => h) (Or.inl ⟨by rfl, ?_⟩) ?_ ?_
          rotate_left
          · intro w'
            go_simp
            with_reducible rfl
          rotate_left
          · simp only [Act.put, List.setIfInBounds_toArray, List.set_cons_zero, List.set_cons_succ, i64_w, i32_w]
            rfl
          refine pure_ (i := 4) (N := some 16) (v := ?_) (a' := ?_) #[true, true, true, true, true, false, false, false, false, false] rfl rfl (by kernel_rfl) (fun _ _ _ h => h) (Or.inl ⟨by rfl, ?_⟩) ?_ ?_
          rotate_left
          · intro w'
            go_simp
            with_reducible rfl
          rotate_left
          · simp only [Act.put, List.setIfInBounds_toArray, List.set_cons_zero, List.set_cons_succ, i64_w, i32_w]
            rfl
          refine take_ (i := 5) (N := some 17) (v := ?_) (a' := ?_) #[true, true, true, true, true, true, false, false, false, false] rfl rfl (by kernel_rfl) (fun _ _ _ h => h) (Or.inl ⟨by rfl, ?_⟩) hHeld ?_ ?_
          rotate_left
          · intro w' s0
            go_simp
            with_reducible rfl
          rotate_left
          · simp only [Act.put, List.setIfInBounds_toArray, List.set_cons_zero, List.set_cons_succ, i64_w, i32_w]
            rfl
          refine one_ (i := 6) (N := some 18) #[true, true, true, true, true, true, true, false, false, false] rfl rfl (by kernel_rfl) (by decide) (fun K hK => ?_)
          refine goes_ Try.func26 (by kernel_rfl) rfl #[] (by rfl) rfl rfl (by simp only [List.map_toArray, List.map_nil]) ?_
          with_reducible refine (shapes_calls _).mono ?_
          rintro e w3 ⟨rfl, hb⟩
          refine ⟨_, rfl, ?_⟩
          have hb3 : Below W.heap.size W w3 := ⟨hb.os, hb.tape, hb.output, hb.size, hb.block⟩
          have hA3 := Lib.hid ((hb3.block _ (lt_of_block HA.out)).trans HA.out)
          have hT3 := Lib.hid (hT.out.call hb3)
          have HB3 := Lib.hid (HB.out.trans (hb3.mono HB.out.size))
          refine hK.out _ _ ((hb3.cell (World.block_lt_of_cell? _ _ b0)).trans b0) (fun hHeld => ?_)
          clear hK K
          refine norm_ (a' := ?_) ?_ ?_
          rotate_left
          · show Act.put _ (some 18) _ = _
            simp only [Act.put, List.setIfInBounds_toArray, List.set_cons_zero, List.set_cons_succ, i64_w, i32_w]
            rfl
          refine pure_ (i := 7) (N := some 19) (v := ?_) (a' := ?_) #[true, true, true, true, true, true, true, true, false, false] rfl rfl (by kernel_rfl) (fun _ _ _ h => h) (Or.inl ⟨by rfl, ?_⟩) ?_ ?_
          rotate_left
          · intro w'
            go_simp
            with_reducible rfl
          rotate_left
          · simp only [Act.put, List.setIfInBounds_toArray, List.set_cons_zero, List.set_cons_succ, i64_w, i32_w]
            rfl
          refine pure_ (i := 8) (N := some 20) (v := ?_) (a' := ?_) #[true, true, true, true, true, true, true, true, true, false] rfl rfl (by kernel_rfl) (fun _ _ _ h => h) (Or.inl ⟨by rfl, ?_⟩) ?_ ?_
          rotate_left
          · intro w'
            go_simp
            with_reducible rfl
          rotate_left
          · simp only [Act.put, List.setIfInBounds_toArray, List.set_cons_zero, List.set_cons_succ, i64_w, i32_w]
            rfl
          refine pure_ (i := 9) (N := some 21) (v := ?_) (a' := ?_) #[true, true, true, true, true, true, true, true, true, true] rfl rfl (by kernel_rfl) (fun _ _ _ h => h) (Or.inl ⟨by rfl, ?_⟩) ?_ ?_
          rotate_left
          · intro w'
            go_simp
            with_reducible rfl
          rotate_left
          · simp only [Act.put, List.setIfInBounds_toArray, List.set_cons_zero, List.set_cons_succ, i64_w, i32_w]
            rfl
          refine done_ (by kernel_rfl) ?_
          have d0 : w3.cell? ⟨wr.heap.size, 0, none⟩ = some (.int .i64 s.f0) := cell_of_row w3 _ 0 _ _ _ hA3.out
          have d1 : w3.cell? ⟨wr.heap.size, 1, none⟩ = some (.slice A1 s.f1.length c1) := cell_of_row w3 _ 1 _ _ _ hA3.out
          have d2 : w3.cell? ⟨wr.heap.size, 2, none⟩ = some (.slice A2 s.f2.length c2) := cell_of_row w3 _ 2 _ _ _ hA3.out
          have d3 : w3.cell? ⟨wr.heap.size, 3, none⟩ = some (.int .i64 s.f3.f0) := cell_of_row w3 _ 3 _ _ _ hA3.out
          have d4 : w3.cell? ⟨wr.heap.size, 4, none⟩ = some (.int .i64 s.f3.f1) := cell_of_row w3 _ 4 _ _ _ hA3.out
          have d5 : w3.cell? ⟨wr.heap.size, 5, none⟩ = some (.int .i64 s.f3.f2) := cell_of_row w3 _ 5 _ _ _ hA3.out
          have d6 : w3.cell? ⟨wr.heap.size, 6, none⟩ = some (.int .i64 s.f3.f3) := cell_of_row w3 _ 6 _ _ _ hA3.out
          have d7 : w3.cell? ⟨wr.heap.size, 7, none⟩ = some (.int .i64 s.f3.f4) := cell_of_row w3 _ 7 _ _ _ hA3.out
          have d8 : w3.cell? ⟨wr.heap.size, 8, none⟩ = some (.int .i64 s.f3.f5) := cell_of_row w3 _ 8 _ _ _ hA3.out
          have hline : stepLine s = joinL (stepWords s.f0.toNat s.f1 s.f2 (optsOf s)) ⟨#[32]⟩ ++ [10] := by unfold stepLine; rw [if_pos ⟨hk1, hk2⟩]
          have hwl := stepWords_len s.f0.toNat (by omega) s.f1 s.f2 (optsOf s)
          have hol : (optsOf s).length = 6 := rfl
          have hb1 := HOKs.out.1
          have hb2 := HOKs.out.2.1
          rw [hol] at hwl
          rw [hline, List.length_append] at hall2
          have hjf : strings_Join.f (stepWords s.f0.toNat s.f1 s.f2 (optsOf s)) ⟨#[32]⟩ = some ⟨(joinL (stepWords s.f0.toNat s.f1 s.f2 (optsOf s)) ⟨#[32]⟩).toArray⟩ := by
            unfold strings_Join.f
            rw [if_pos (by omega), if_pos (by omega)]
          have hall3 : acc.length + ((joinL (stepWords s.f0.toNat s.f1 s.f2 (optsOf s)) ⟨#[32]⟩).length + 1) ≤ 100000000000000 := hall2
          have HJ := Lib.hid hjf
          have HL := Lib.hid hline
          clear hjf hline hwl hol hb1 hb2 hall2
          go_wp2_with fail
          refine (words_calls' s.f0 s.f0.toNat (by omega) (by omega) s.f1 s.f2 s.f3.f0 s.f3.f1 s.f3.f2 s.f3.f3 s.f3.f4 s.f3.f5 A1 A2 c1 c2 _ (Kd.C_below G1.out HB3.out) l1 (Kd.C_below G2.out HB3.out) l2 HOKs.out.2.2.1 HOKs.out.2.2.2.1 HOKs.out.2.2.2.2 HOKs.out.1 HOKs.out.2.1).mono ?_
          rintro e w5 ⟨v5, rfl, hR5, hb5⟩
          obtain ⟨Av, cv, rfl, hlv, hCv⟩ := Kd.R_reads hR5
          have hT5 := Lib.hid (hT3.out.call hb5)
          have HCv := Lib.hid hCv
          clear hR5 hb5 hCv d0 d1 d2 d3 d4 d5 d6 d7 d8 b0
          go_wp2_with fail
          refine (strings_Join.calls Av cv _ ⟨#[32]⟩ _ _ HCv.out hlv HJ.out).mono ?_
          rintro e w6 ⟨rfl, hb6⟩
          have hT6 := Lib.hid (hT5.out.call hb6)
          have hxs : (⟨(joinL (stepWords s.f0.toNat s.f1 s.f2 (optsOf s)) ⟨#[32]⟩).toArray⟩ : ByteArray).size = (joinL (stepWords s.f0.toNat s.f1 s.f2 (optsOf s)) ⟨#[32]⟩).length := size_arr _
          have HX : Hid ((⟨(joinL (stepWords s.f0.toNat s.f1 s.f2 (optsOf s)) ⟨#[32]⟩).toArray⟩ : ByteArray) ++ ⟨#[10]⟩ = ⟨(stepLine s).toArray⟩) := by
            show _ = _
            rw [HL.out]; exact append_arr _ [10]
          have hlen2 : acc.length + (stepLine s).length ≤ 140737488355328 := by rw [HL.out, List.length_append, List.length_singleton]; omega
          clear hb6 hlv
          generalize (⟨(joinL (stepWords s.f0.toNat s.f1 s.f2 (optsOf s)) ⟨#[32]⟩).toArray⟩ : ByteArray) = xs at *
          have hfit : xs.size + 1 ≤ 9223372036854775807 := by omega
          have hfit2 : (9223372036854775807 < xs.size + 1) = False := eq_false (by omega)
          clear hxs hall3
          go_wp2_with fail
          rw [HX.out]
          refine (writeString_calls w.heap.size w.heap.size _ ⟨(stepLine s).toArray⟩ _ hT6.out.isB (by rw [Lib.byteCells_length, size_arr]; exact hlen2) hT6.out.below.size).mono ?_
          rintro e w7 ⟨rfl, hI7, hb7⟩
          have hT7 : Hid (TWorld w.heap.size (acc ++ stepLine s) w w7) := hT6.out.write (by rw [Lib.byteCells_append]; exact hI7) hb7
          clear hI7 hb7 hfit hfit2
          go_wp2
          go_roundg gk'
          case rel => exact ⟨i + 1, rfl, by omega, by omega, by omega, by rw [show (i + 1).toNat = i.toNat + 1 by omega, HACC.out]; exact hT7⟩
          case measure => omega
        · have k2 : decide (s.f0 < 35) = false := decide_eq_false hk2
          have HL := Lib.hid (show stepLine s = [] by unfold stepLine; rw [if_neg (fun h => hk2 h.2)])
          refine start_ (n := 10) (S := fun w' => w'.cell? ⟨wr.heap.size, 0, none⟩ = some (.int .i64 s.f0)) (ds := []) #[false, false, false, false, false, false, false, false, false, false] (by kernel_rfl) rfl rfl (by go_simp) (fun hHeld => ?_)
          refine pure_ (i := 0) (N := some 12) (v := ?_) (a' := ?_) #[true, false, false, false, false, false, false, false, false, false] rfl rfl (by kernel_rfl) (fun _ _ _ h => h) (Or.inl ⟨by rfl, ?_⟩) ?_ ?_
          rotate_left
          · intro w'
            go_simp
            with_reducible rfl
          rotate_left
          · simp only [Act.put, List.setIfInBounds_toArray, List.set_cons_zero, List.set_cons_succ, i64_w, i32_w]
            rfl
          refine take_ (i := 1) (N := some 13) (v := ?_) (a' := ?_) #[true, true, false, false, false, false, false, false, false, false] rfl rfl (by kernel_rfl) (fun _ _ _ h => h) (Or.inl ⟨by rfl, ?_⟩) hHeld ?_ ?_
          rotate_left
          · intro w' s0
            go_simp
            with_reducible rfl
          rotate_left
          · simp only [Act.put, List.setIfInBounds_toArray, List.set_cons_zero, List.set_cons_succ, i64_w, i32_w]
            rfl
          refine pure_ (i := 2) (N := some 14) (v := ?_) (a' := ?_) #[true, true, true, false, false, false, false, false, false, false] rfl rfl (by kernel_rfl) (fun _ _ _ h => h) (Or.inl ⟨by rfl, ?_⟩) ?_ ?_
          rotate_left
          · intro w'
            go_simp
            with_reducible rfl
          rotate_left
          · simp only [Act.put, List.setIfInBounds_toArray, List.set_cons_zero, List.set_cons_succ, i64_w, i32_w]
            rfl
          refine pure_ (i := 3) (N := some 15) (v := ?_) (a' := ?_) #[true, true, true, true, false, false, false, false, false, false] rfl rfl (by kernel_rfl) (fun _ _ _ h => h) (Or.inl ⟨by rfl, ?_⟩) ?_ ?_
          rotate_left
          · intro w'
            go_simp
            with_reducible rfl
          rotate_left
          · simp only [Act.put, List.setIfInBounds_toArray, List.set_cons_zero, List.set_cons_succ, i64_w, i32_w]
            rfl
          refine pure_ (i := 4) (N := some 16) (v := ?_) (a' := ?_) #[true, true, true, true, true, false, false, false, false, false] rfl rfl (by kernel_rfl) (fun _ _ _ h => h) (Or.inl ⟨by rfl, ?_⟩) ?_ ?_
          rotate_left
          · intro w'
            go_simp
            with_reducible rfl
          rotate_left
          · simp only [Act.put, List.setIfInBounds_toArray, List.set_cons_zero, List.set_cons_succ, i64_w, i32_w]
            rfl
          refine take_ (i := 5) (N := some 17) (v := ?_) (a' := ?_) #[true, true, true, true, true, true, false, false, false, false] rfl rfl (by kernel_rfl) (fun _ _ _ h => h) (Or.inl ⟨by rfl, ?_⟩) hHeld ?_ ?_
          rotate_left
          · intro w' s0
            go_simp
            with_reducible rfl
          rotate_left
          · simp only [Act.put, List.setIfInBounds_toArray, List.set_cons_zero, List.set_cons_succ, i64_w, i32_w]
            rfl
          refine one_ (i := 6) (N := some 18) #[true, true, true, true, true, true, true, false, false, false] rfl rfl (by kernel_rfl) (by decide) (fun K hK => ?_)
          refine goes_ Try.func26 (by kernel_rfl) rfl #[] (by rfl) rfl rfl (by simp only [List.map_toArray, List.map_nil]) ?_
          with_reducible refine (shapes_calls _).mono ?_
          rintro e w3 ⟨rfl, hb⟩
          refine ⟨_, rfl, ?_⟩
          have hb3 : Below W.heap.size W w3 := ⟨hb.os, hb.tape, hb.output, hb.size, hb.block⟩
          have hA3 := Lib.hid ((hb3.block _ (lt_of_block HA.out)).trans HA.out)
          have hT3 := Lib.hid (hT.out.call hb3)
          have HB3 := Lib.hid (HB.out.trans (hb3.mono HB.out.size))
          refine hK.out _ _ ((hb3.cell (World.block_lt_of_cell? _ _ b0)).trans b0) (fun hHeld => ?_)
          clear hK K
          refine norm_ (a' := ?_) ?_ ?_
          rotate_left
          · show Act.put _ (some 18) _ = _
            simp only [Act.put, List.setIfInBounds_toArray, List.set_cons_zero, List.set_cons_succ, i64_w, i32_w]
            rfl
          refine pure_ (i := 7) (N := some 19) (v := ?_) (a' := ?_) #[true, true, true, true, true, true, true, true, false, false] rfl rfl (by kernel_rfl) (fun _ _ _ h => h) (Or.inl ⟨by rfl, ?_⟩) ?_ ?_
          rotate_left
          · intro w'
            go_simp
            with_reducible rfl
          rotate_left
          · simp only [Act.put, List.setIfInBounds_toArray, List.set_cons_zero, List.set_cons_succ, i64_w, i32_w]
            rfl
          refine pure_ (i := 8) (N := some 20) (v := ?_) (a' := ?_) #[true, true, true, true, true, true, true, true, true, false] rfl rfl (by kernel_rfl) (fun _ _ _ h => h) (Or.inl ⟨by rfl, ?_⟩) ?_ ?_
          rotate_left
          · intro w'
            go_simp
            with_reducible rfl
          rotate_left
          · simp only [Act.put, List.setIfInBounds_toArray, List.set_cons_zero, List.set_cons_succ, i64_w, i32_w]
            rfl
          refine pure_ (i := 9) (N := some 21) (v := ?_) (a' := ?_) #[true, true, true, true, true, true, true, true, true, true] rfl rfl (by kernel_rfl) (fun _ _ _ h => h) (Or.inl ⟨by rfl, ?_⟩) ?_ ?_
          rotate_left
          · intro w'
            go_simp
            with_reducible rfl
          rotate_left
          · simp only [Act.put, List.setIfInBounds_toArray, List.set_cons_zero, List.set_cons_succ, i64_w, i32_w]
            rfl
          refine done_ (by kernel_rfl) ?_
          have hT7 : Hid (TWorld w.heap.size (acc ++ stepLine s) w w3) := by
            have := hT3.out
            show TWorld _ _ _ _
            rw [HL.out, List.append_nil]; exact this
          clear hT3 hA3 HB3 b0
          go_wp2
          go_roundg gk'
          case rel => exact ⟨i + 1, rfl, by omega, by omega, by omega, by rw [show (i + 1).toNat = i.toNat + 1 by omega, HACC.out]; exact hT7⟩
          case measure => omega
      · have k1 : decide (s.f0 ≥ 1) = false := decide_eq_false hk1
        have HL := Lib.hid (show stepLine s = [] by unfold stepLine; rw [if_neg (fun h => hk1 h.1)])
        refine start_ (n := 10) (S := fun w' => w'.cell? ⟨wr.heap.size, 0, none⟩ = some (.int .i64 s.f0)) (ds := []) #[false, false, false, false, false, false, false, false, false, false] (by kernel_rfl) rfl rfl (by go_simp) (fun hHeld => ?_)
        refine pure_ (i := 0) (N := some 12) (v := ?_) (a' := ?_) #[true, false, false, false, false, false, false, false, false, false] rfl rfl (by kernel_rfl) (fun _ _ _ h => h) (Or.inl ⟨by rfl, ?_⟩) ?_ ?_
        rotate_left
        · intro w'
          go_simp
          with_reducible rfl
        rotate_left
        · simp only [Act.put, List.setIfInBounds_toArray, List.set_cons_zero, List.set_cons_succ, i64_w, i32_w]
          rfl
        refine take_ (i := 1) (N := some 13) (v := ?_) (a' := ?_) #[true, true, false, false, false, false, false, false, false, false] rfl rfl (by kernel_rfl) (fun _ _ _ h => h) (Or.inl ⟨by rfl, ?_⟩) hHeld ?_ ?_
        rotate_left
        · intro w' s0
          go_simp
          with_reducible rfl
        rotate_left
        · simp only [Act.put, List.setIfInBounds_toArray, List.set_cons_zero, List.set_cons_succ, i64_w, i32_w]
          rfl
        refine pure_ (i := 2) (N := some 14) (v := ?_) (a' := ?_) #[true, true, true, false, false, false, false, false, false, false] rfl rfl (by kernel_rfl) (fun _ _ _ h => h) (Or.inl ⟨by rfl, ?_⟩) ?_ ?_
        rotate_left
        · intro w'
          go_simp
          with_reducible rfl
        rotate_left
        · simp only [Act.put, List.setIfInBounds_toArray, List.set_cons_zero, List.set_cons_succ, i64_w, i32_w]
          rfl
        refine pure_ (i := 3) (N := some 15) (v := ?_) (a' := ?_) #[true, true, true, true, false, false, false, false, false, false] rfl rfl (by kernel_rfl) (fun _ _ _ h => h) (Or.inl ⟨by rfl, ?_⟩) ?_ ?_
        rotate_left
        · intro w'
          go_simp
          with_reducible rfl
        rotate_left
        · simp only [Act.put, List.setIfInBounds_toArray, List.set_cons_zero, List.set_cons_succ, i64_w, i32_w]
          rfl
        refine pure_ (i := 4) (N := some 16) (v := undef) (a' := ?_) #[true, true, true, true, true, false, false, false, false, false] rfl rfl (by kernel_rfl) (fun _ _ _ h => h) (Or.inr ⟨by rfl, rfl⟩) ?_ ?_
        rotate_left
        · simp only [Act.put, List.setIfInBounds_toArray, List.set_cons_zero, List.set_cons_succ, i64_w, i32_w]
          rfl
        refine pure_ (i := 5) (N := some 17) (v := undef) (a' := ?_) #[true, true, true, true, true, true, false, false, false, false] rfl rfl (by kernel_rfl) (fun _ _ _ h => h) (Or.inr ⟨by rfl, rfl⟩) ?_ ?_
        rotate_left
        · simp only [Act.put, List.setIfInBounds_toArray, List.set_cons_zero, List.set_cons_succ, i64_w, i32_w]
          rfl
        refine pure_ (i := 6) (N := some 18) (v := undef) (a' := ?_) #[true, true, true, true, true, true, true, false, false, false] rfl rfl (by kernel_rfl) (fun _ _ _ h => h) (Or.inr ⟨by rfl, rfl⟩) ?_ ?_
        rotate_left
        · simp only [Act.put, List.setIfInBounds_toArray, List.set_cons_zero, List.set_cons_succ, i64_w, i32_w]
          rfl
        refine pure_ (i := 7) (N := some 19) (v := undef) (a' := ?_) #[true, true, true, true, true, true, true, true, false, false] rfl rfl (by kernel_rfl) (fun _ _ _ h => h) (Or.inr ⟨by rfl, rfl⟩) ?_ ?_
        rotate_left
        · simp only [Act.put, List.setIfInBounds_toArray, List.set_cons_zero, List.set_cons_succ, i64_w, i32_w]
          rfl
        refine pure_ (i := 8) (N := some 20) (v := undef) (a' := ?_) #[true, true, true, true, true, true, true, true, true, false] rfl rfl (by kernel_rfl) (fun _ _ _ h => h) (Or.inr ⟨by rfl, rfl⟩) ?_ ?_
        rotate_left
        · simp only [Act.put, List.setIfInBounds_toArray, List.set_cons_zero, List.set_cons_succ, i64_w, i32_w]
          rfl
        refine pure_ (i := 9) (N := some 21) (v := ?_) (a' := ?_) #[true, true, true, true, true, true, true, true, true, true] rfl rfl (by kernel_rfl) (fun _ _ _ h => h) (Or.inl ⟨by rfl, ?_⟩) ?_ ?_
        rotate_left
        · intro w'
          go_simp
          with_reducible rfl
        rotate_left
        · simp only [Act.put, List.setIfInBounds_toArray, List.set_cons_zero, List.set_cons_succ, i64_w, i32_w]
          rfl
        refine done_ (by kernel_rfl) ?_
        have hT7 : Hid (TWorld w.heap.size (acc ++ stepLine s) w W.drew) := by
          have := hT.out
          show TWorld _ _ _ _
          rw [HL.out, List.append_nil]; exact this.call ⟨rfl, rfl, rfl, Nat.le_refl _, fun _ _ => rfl⟩
        clear hT b0
        go_wp2
        go_roundg gk'
        case rel => exact ⟨i + 1, rfl, by omega, by omega, by omega, by rw [show (i + 1).toNat = i.toNat + 1 by omega, HACC.out]; exact hT7⟩
        case measure => omega
    · obtain rfl : i = l.length := by omega
      have hHW := HW.out
      rw [Int.toNat_natCast, List.take_length] at hHW
      have HT := Lib.hid hHW
      clear hHW HW
      go_wp2_with fail
      refine (Try.Builder_String_any w.heap.size w.heap.size _ _ HT.out.isB HT.out.below.size).mono ?_
      rintro e w3 ⟨rfl, hb3⟩
      have HB3 := Lib.hid (HT.out.below.trans hb3)
      clear hb3
      go_wp2
      go_ret
      exact ⟨rfl, HB3.out⟩

end Go.Proofs.Ytnpmkaklkonofaa.Txt
