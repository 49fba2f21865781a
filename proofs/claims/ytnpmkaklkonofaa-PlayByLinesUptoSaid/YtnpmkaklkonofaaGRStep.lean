/- annalsref30.StepOf: a line's words as a step, the document's way. -/
import Derived.Test.YtnpmkaklkonofaaGStep
import Derived.Test.YtnpmkaklkonofaaQx9
set_option linter.unusedVariables false
set_option linter.unusedSimpArgs false
namespace Go.Proofs.Ytnpmkaklkonofaa.Txt
open Go.RowKit Go.Proofs.YtnpmkaklkonofaaW.PrintWords Go.Proofs.YtnpmkaklkonofaaW.PrintLast Go.Proofs.Ytnpmkaklkonofaa.Hand Go.Proofs.Ytnpmkaklkonofaa.Q Go.Proofs.YtnpmkaklkonofaaW.PrintMore

/-- A wrong number of words. -/
def badL (m n ss mo : Nat) : Bool := decide (m < n + ss) || (decide (n + ss < m) && decide (mo = 0))
/-- How many numbers stand there. -/
def cntL (m n ss mo : Nat) : Nat := if mo = 1 then m - ss else n
def rstepP (ws : List ByteArray) (kd nn ss mo : Nat) (oo : Bool) (nums : List Int) (e : Int) : S52 × Int :=
  if badL (ws.length - 1) (if oo = true then 6 else nn) ss mo = true then (z52, 300)
  else if e ≠ 0 then (z52, e)
  else (⟨(kd : Int), if oo = true then [] else nums, ws.drop (1 + cntL (ws.length - 1) (if oo = true then 6 else nn) ss mo), if oo = true then optsL nums else z50⟩, 0)

theorem rstep_end {x : S52 × Int} {tmps : Array Value} {w w' : World} {g : Nat} {v1 v2 : Value} (hp : tmps.getD 2 undef = .pointer (some ⟨g, 0, none⟩)) (h3 : tmps.getD 3 undef = .int .i64 x.2)
    (hb : w'.heap[g]? = some (.cells #[.int .i64 x.1.f0, v1, v2, .int .i64 x.1.f3.f0, .int .i64 x.1.f3.f1, .int .i64 x.1.f3.f2, .int .i64 x.1.f3.f3, .int .i64 x.1.f3.f4, .int .i64 x.1.f3.f5] 52 (0, 0)))
    (h1 : Kd.R (Kd.int .i64) 3 w' w.heap.size (fun _ => True) v1 x.1.f1) (h2 : Kd.R Kd.string 9 w' w.heap.size (fun _ => True) v2 x.1.f2) (hB : Below w.heap.size w w') :
    bodyPost Try.prog Try.f47 (StepAns x w) .ret { tmps := tmps, defers := [] } w' :=
  bodyPost_ret (results_ct rfl _ _ g 52 _ (0, 0) _ hp hb Try.underlying52 rfl (by rw [info52']; rfl)) rfl ⟨v1, v2, by rw [h3], h1, h2, hB⟩

set_option maxHeartbeats 1000000 in
set_option maxRecDepth 100000 in
theorem rstep_none (K : Nat) (A : Option Addr) (c : Nat) (ws : List ByteArray) (w : World) (hr : Kd.C Kd.string w A ws.length ws) (hc : ws.length ≤ c) (hpos : 0 < ws.length) (hk : annalsref30_kindOf.f K (ws.getD 0 ByteArray.empty) = some 0) :
    Calls Try.prog 47 #[.slice A ws.length c] w (StepAns (z52, 300) w) := by
  have HR := Lib.hid hr
  clear hr
  have hu1 := Try.underlying52
  have hu2 := Try.underlying50
  have hz := ZW.start w
  obtain ⟨w1, hw1⟩ : ∃ w1, w.alloc (.cells #[.int .i64 0, .slice none 0 0, .slice none 0 0, .int .i64 0, .int .i64 0, .int .i64 0, .int .i64 0, .int .i64 0, .int .i64 0] 52) = w1 := ⟨_, rfl⟩
  obtain ⟨ad, e, hel⟩ := Kd.at_string (Kd.C_below HR.out hz.below) 0 (by omega) (by omega)
  subst e
  obtain ⟨w0, hw0⟩ : ∃ w0, ws.getD 0 ByteArray.empty = w0 := ⟨_, rfl⟩
  have hel2 : (w.alloc (.cells #[.int .i64 0, .slice none 0 0, .slice none 0 0, .int .i64 0, .int .i64 0, .int .i64 0, .int .i64 0, .int .i64 0, .int .i64 0] 52)).cell? ad = some (.string w0) := hw0 ▸ hel
  rw [hw0] at hk
  have HK := Lib.hid hk
  rw [hw1] at hz hel2
  have HZ := Lib.hid hz
  clear hz hel hw0 hk
  go_enter Try.func47, Try.ntmps47
  go_wp2_with fail
  refine (annalsref30_kindOf.calls K w0 0 _ HK.out).mono ?_
  rintro e w2 ⟨rfl, hb2⟩
  have HZ2 := Lib.hid (HZ.out.call hb2)
  obtain ⟨d0, f0, d1, f1, d2, f2, d3, f3, d4, f4, d5, f5, d6, f6, d7, f7, d8, f8⟩ := HZ2.out.cells
  clear hb2 hel2 hw1 HZ
  go_wp2_with fail
  obtain ⟨hbk, hbl⟩ := HZ2.out.put (.int .i64 0) (.slice none 0 0) (.slice none 0 0) (.int .i64 0) (.int .i64 0) (.int .i64 0) (.int .i64 0) (.int .i64 0) (.int .i64 0)
  exact rstep_end (x := (z52, 300)) rfl rfl hbk (Kd.R_nil _ _ _ _ _) (Kd.R_nil _ _ _ _ _) hbl

/-- Beside the answer's variable: the table's row, in block r. -/
structure RW (g r : Nat) (wd : ByteArray) (nn ss mo : Int) (oo : Bool) (w wr : World) : Prop where
  z : ZW g w wr
  lt : g < r
  row : wr.heap[r]? = some (.cells #[.string wd, .int .i64 nn, .int .i64 ss, .int .i64 mo, .bool oo] 104 (0, 0))
theorem RW.call {g r : Nat} {wd : ByteArray} {nn ss mo : Int} {oo : Bool} {w wr w1 : World} (h : RW g r wd nn ss mo oo w wr) (hb : Below wr.heap.size wr w1) : RW g r wd nn ss mo oo w w1 := ⟨h.z.call hb, h.lt, (hb.block _ (lt_of_block h.row)).trans h.row⟩
theorem RW.start {g : Nat} {wd : ByteArray} {nn ss mo : Int} {oo : Bool} {w wr : World} (h : ZW g w wr) : RW g wr.heap.size wd nn ss mo oo w (wr.alloc (.cells #[.string wd, .int .i64 nn, .int .i64 ss, .int .i64 mo, .bool oo] 104)) :=
  ⟨h.call (below_alloc (Below.refl _ _) _), lt_of_block h.block, heap_alloc_new wr _⟩
theorem RW.cells {g r : Nat} {wd : ByteArray} {nn ss mo : Int} {oo : Bool} {w wr : World} (h : RW g r wd nn ss mo oo w wr) : wr.cell? ⟨r, 1, none⟩ = some (.int .i64 nn) ∧ wr.cell? ⟨r, 2, none⟩ = some (.int .i64 ss) ∧ wr.cell? ⟨r, 3, none⟩ = some (.int .i64 mo) ∧ wr.cell? ⟨r, 4, none⟩ = some (.bool oo) :=
  ⟨cell_of_row wr _ 1 _ _ _ h.row, cell_of_row wr _ 2 _ _ _ h.row, cell_of_row wr _ 3 _ _ _ h.row, cell_of_row wr _ 4 _ _ _ h.row⟩

theorem slice_mid (ad : Addr) (c : Nat) (ws : List ByteArray) (nq : Nat) (hle : 1 + nq ≤ ws.length) (hc : ws.length ≤ c) :
    ∃ Ax : Option Addr, (∀ W : World, (Instr.slice 28 (.slice (some ad) ws.length c) (some (.int .i64 1)) (some (.int .i64 (1 + (nq : Int)))) none).run Try.prog W = .ok (.slice Ax nq (c - 1)) W) ∧
      ∀ w : World, Kd.C Kd.string w (some ad) ws.length ws → Kd.C Kd.string w Ax nq ((ws.take (1 + nq)).drop 1) := by
  obtain ⟨i0, hi, hz⟩ := Option.map_eq_some_iff.1 info9
  simp only [Prod.mk.injEq] at hz
  obtain ⟨A', h1, h2, -⟩ := print_mid_of (P := Try.prog) Value.string ByteArray.empty 28 9 .i64 .i64 Try.underlying28 hi hz.2.1 (some ad) c ws 1 (1 + (nq : Int)) (by omega) (by omega) (by omega) hc
  have e : (1 + (nq : Int)).toNat = 1 + nq := by omega
  have hl : ((ws.take (1 + nq)).drop 1).length = nq := by rw [List.length_drop, List.length_take]; omega
  rw [e] at h1 h2
  refine ⟨A', fun W => by rw [h1 W, show (1 : Int).toNat = 1 from rfl, hl], fun w h => ?_⟩
  have h3 := Kd.C_of_reads (h1 := fun _ => rfl) (h2 w (Kd.reads_of_C h))
  rw [show (1 : Int).toNat = 1 from rfl, hl] at h3
  exact h3

/-- In the loop: the step's own variable in block B. -/
structure RL (B g : Nat) (kd : Int) (o : S50) (x : StpS) (vN vS : Value) (w w4 wr : World) : Prop where
  sf : SF B g x vN vS w w4 wr
  step : wr.heap[B]? = some (.cells #[.int .i64 kd, vN, vS, .int .i64 o.f0, .int .i64 o.f1, .int .i64 o.f2, .int .i64 o.f3, .int .i64 o.f4, .int .i64 o.f5] 52 (0, 0))
  b4 : Below w4.heap.size w4 wr
  le : w4.heap.size ≤ B
section
variable {B g : Nat} {kd : Int} {o : S50} {x : StpS} {vN vS v1 : Value} {w w4 w5 wr w1 : World}
theorem RL.call (h : RL B g kd o x vN vS w w4 wr) (hb : Below wr.heap.size wr w1) : RL B g kd o x vN vS w w4 w1 :=
  ⟨⟨h.sf.le, h.sf.lt, h.sf.le4, (hb.block _ (lt_of_block h.sf.z)).trans h.sf.z, Kd.R_below h.sf.N hb, Kd.R_below h.sf.S hb, h.sf.below.trans (hb.mono h.sf.below.size)⟩, (hb.block _ (lt_of_block h.step)).trans h.step, h.b4.trans (hb.mono h.b4.size), h.le⟩
theorem RL.fresh (h : RL B g kd o x vN vS w w4 wr) : ∀ k, wr.heap.size ≤ k → k ≠ B ∧ k ≠ g := fun k hk => by
  have h1 := lt_of_block h.step
  have h2 := lt_of_block h.sf.z
  omega
theorem RL.cell (h : RL B g kd o x vN vS w w4 wr) (j : Nat) : wr.cell? ⟨B, j, none⟩ = (#[.int .i64 kd, vN, vS, .int .i64 o.f0, .int .i64 o.f1, .int .i64 o.f2, .int .i64 o.f3, .int .i64 o.f4, .int .i64 o.f5] : Array Value)[j]? := cell_of_row wr _ _ _ _ _ h.step
theorem RL.cells (h : RL B g kd o x vN vS w w4 wr) : wr.cell? ⟨B, 0, none⟩ = some (.int .i64 kd) ∧ wr.cell? ⟨B, 1, none⟩ = some (vN) ∧ wr.cell? ⟨B, 2, none⟩ = some (vS) ∧ wr.cell? ⟨B, 3, none⟩ = some (.int .i64 o.f0) ∧ wr.cell? ⟨B, 4, none⟩ = some (.int .i64 o.f1) ∧ wr.cell? ⟨B, 5, none⟩ = some (.int .i64 o.f2) ∧ wr.cell? ⟨B, 6, none⟩ = some (.int .i64 o.f3) ∧ wr.cell? ⟨B, 7, none⟩ = some (.int .i64 o.f4) ∧ wr.cell? ⟨B, 8, none⟩ = some (.int .i64 o.f5) := ⟨h.cell 0, h.cell 1, h.cell 2, h.cell 3, h.cell 4, h.cell 5, h.cell 6, h.cell 7, h.cell 8⟩
theorem SF.cells (h : SF B g x vN vS w w4 wr) : wr.cell? ⟨g, 0, none⟩ = some (.int .i64 0) ∧ wr.frozen? ⟨g, 0, none⟩ = false ∧ wr.cell? ⟨g, 1, none⟩ = some (.slice none 0 0) ∧ wr.frozen? ⟨g, 1, none⟩ = false ∧ wr.cell? ⟨g, 2, none⟩ = some (.slice none 0 0) ∧ wr.frozen? ⟨g, 2, none⟩ = false ∧ wr.cell? ⟨g, 3, none⟩ = some (.int .i64 0) ∧ wr.frozen? ⟨g, 3, none⟩ = false ∧ wr.cell? ⟨g, 4, none⟩ = some (.int .i64 0) ∧ wr.frozen? ⟨g, 4, none⟩ = false ∧ wr.cell? ⟨g, 5, none⟩ = some (.int .i64 0) ∧ wr.frozen? ⟨g, 5, none⟩ = false ∧ wr.cell? ⟨g, 6, none⟩ = some (.int .i64 0) ∧ wr.frozen? ⟨g, 6, none⟩ = false ∧ wr.cell? ⟨g, 7, none⟩ = some (.int .i64 0) ∧ wr.frozen? ⟨g, 7, none⟩ = false ∧ wr.cell? ⟨g, 8, none⟩ = some (.int .i64 0) ∧ wr.frozen? ⟨g, 8, none⟩ = false := ⟨cell_of_row wr _ 0 _ _ _ h.z, frozen_of_row wr _ 0 _ _ h.z, cell_of_row wr _ 1 _ _ _ h.z, frozen_of_row wr _ 1 _ _ h.z, cell_of_row wr _ 2 _ _ _ h.z, frozen_of_row wr _ 2 _ _ h.z, cell_of_row wr _ 3 _ _ _ h.z, frozen_of_row wr _ 3 _ _ h.z, cell_of_row wr _ 4 _ _ _ h.z, frozen_of_row wr _ 4 _ _ h.z, cell_of_row wr _ 5 _ _ _ h.z, frozen_of_row wr _ 5 _ _ h.z, cell_of_row wr _ 6 _ _ _ h.z, frozen_of_row wr _ 6 _ _ h.z, cell_of_row wr _ 7 _ _ _ h.z, frozen_of_row wr _ 7 _ _ h.z, cell_of_row wr _ 8 _ _ _ h.z, frozen_of_row wr _ 8 _ _ h.z⟩
theorem RL.putS (h : RL B g kd o x vN vS w w4 wr) {S' : List ByteArray} (ho : Kd.R Kd.string 9 w1 w4.heap.size (fun k => k ≠ B ∧ k ≠ g) v1 S') (hg : wr.grownBy w1 vS.ownBlock) :
    w1.cell? ⟨B, 2, none⟩ = some vS ∧ w1.frozen? ⟨B, 2, none⟩ = false ∧ Below w.heap.size w w1 ∧ RL B g kd o ⟨x.N, S', x.O⟩ vN v1 w w4 (w1.setCell ⟨B, 2, none⟩ v1) := by
  have hS := h.sf.S
  have eB : w1.heap[B]? = wr.heap[B]? := hg.block B (lt_of_block h.step) (fun e => (hS.1 B e.symm).1 rfl)
  have eg : w1.heap[g]? = wr.heap[g]? := hg.block g (lt_of_block h.sf.z) (fun e => (hS.1 g e.symm).2 rfl)
  have hB := eB.trans h.step
  have hb : ∀ k, vS.ownBlock = some k → w4.heap.size ≤ k := fun k hk => by obtain ⟨_, inner, hown, _⟩ := hS; exact own_base hown k hk
  have hsz : w.heap.size ≤ w4.heap.size := Nat.le_trans h.sf.le h.sf.le4
  have hw : Below w.heap.size w w1 := h.sf.below.grown hg h.sf.below.size (fun k hk => Nat.le_trans hsz (hb k hk))
  have hw4 : Below w4.heap.size w4 w1 := h.b4.grown hg h.b4.size hb
  have hsf : SF B g ⟨x.N, S', x.O⟩ vN v1 w w4 w1 := ⟨h.sf.le, h.sf.lt, h.sf.le4, eg.trans h.sf.z, R_int_string h.sf.N hS hg, ho, hw⟩
  exact ⟨cell_of_row w1 _ 2 _ _ _ hB, frozen_of_row w1 _ 2 _ _ hB, hw, hsf.setA 2 v1, set_block hB 2 v1, hw4.setCell (p := ⟨B, 2, none⟩) h.le _, h.le⟩
theorem RL.start {nums : List Int} (hz : ZW g w w5) (hlt : g < w4.heap.size) (hb : Below w4.heap.size w4 w5) (hn : Kd.R (Kd.int .i64) 3 w5 w4.heap.size (fun _ => True) v1 nums) :
    RL w5.heap.size g kd o ⟨nums, [], []⟩ v1 (.slice none 0 0) w w4 (w5.alloc (.cells #[.int .i64 kd, v1, .slice none 0 0, .int .i64 o.f0, .int .i64 o.f1, .int .i64 o.f2, .int .i64 o.f3, .int .i64 o.f4, .int .i64 o.f5] 52)) := by
  have hg := lt_of_block hz.block
  have hal : Below w5.heap.size w5 (w5.alloc (.cells #[.int .i64 kd, v1, .slice none 0 0, .int .i64 o.f0, .int .i64 o.f1, .int .i64 o.f2, .int .i64 o.f3, .int .i64 o.f4, .int .i64 o.f5] 52)) := below_alloc (Below.refl _ _) _
  refine ⟨⟨hz.le, hg, Nat.le_of_lt hlt, (hz.call hal).block, ?_, Kd.R_nil _ _ _ _ _, (hz.call hal).below⟩, heap_alloc_new w5 _, hb.trans (hal.mono hb.size), hb.size⟩
  exact Kd.R_below (Kd.R_mono (Kd.R_bound hn) (fun k hk => ⟨by have := hk.2.2.1; omega, by have := hk.2.1; omega⟩)) hal
end

set_option maxHeartbeats 2000000 in
set_option maxRecDepth 100000 in
theorem rstepN_calls (K : Nat) (A : Option Addr) (c : Nat) (ws : List ByteArray) (w : World) (hr : Kd.C Kd.string w A ws.length ws) (hc : ws.length ≤ c) (hpos : 0 < ws.length) (hl : ws.length ≤ 1073741824)
    (kd nn ss mo : Nat) (wd : ByteArray) (nums : List Int) (er : Int) (hk : annalsref30_kindOf.f K (ws.getD 0 ByteArray.empty) = some (kd : Int)) (hk0 : kd ≠ 0) (hrow : annalsref30_row.f (kd : Int) = some (wd, (nn : Int), (ss : Int), (mo : Int), false)) (hb : nn ≤ 10 ∧ ss ≤ 10 ∧ mo ≤ 2)
    (hn : badL (ws.length - 1) nn ss mo = false → annalsref30_numbersOf.f K ((ws.take (1 + cntL (ws.length - 1) nn ss mo)).drop 1) = some (nums, er) ∧ (er = 0 → nums.length = cntL (ws.length - 1) nn ss mo)) :
    Calls Try.prog 47 #[.slice A ws.length c] w (StepAns (rstepP ws kd nn ss mo false nums er) w) := by
  obtain ⟨R, hR⟩ : ∃ R, rstepP ws kd nn ss mo false nums er = R := ⟨_, rfl⟩
  rw [hR]
  have HR := Lib.hid hr
  have HRow := Lib.hid hrow
  have HN2 := Lib.hid hn
  have hX : R = (if badL (ws.length - 1) nn ss mo = true then (z52, 300) else if er ≠ 0 then (z52, er) else (⟨(kd : Int), nums, ws.drop (1 + cntL (ws.length - 1) nn ss mo), z50⟩, 0)) := by rw [← hR]; rfl
  have HX := Lib.hid hX
  clear hr hn hrow hR hX
  have hu1 := Try.underlying52
  have hu2 := Try.underlying50
  have hu3 := Try.underlying104
  have hz := ZW.start w
  obtain ⟨w1, hw1⟩ : ∃ w1, w.alloc (.cells #[.int .i64 0, .slice none 0 0, .slice none 0 0, .int .i64 0, .int .i64 0, .int .i64 0, .int .i64 0, .int .i64 0, .int .i64 0] 52) = w1 := ⟨_, rfl⟩
  obtain ⟨ad, e, hel⟩ := Kd.at_string (Kd.C_below HR.out hz.below) 0 (by omega) (by omega)
  subst e
  obtain ⟨w0, hw0⟩ : ∃ w0, ws.getD 0 ByteArray.empty = w0 := ⟨_, rfl⟩
  have hel2 : (w.alloc (.cells #[.int .i64 0, .slice none 0 0, .slice none 0 0, .int .i64 0, .int .i64 0, .int .i64 0, .int .i64 0, .int .i64 0, .int .i64 0] 52)).cell? ad = some (.string w0) := hw0 ▸ hel
  rw [hw0] at hk
  have HK := Lib.hid hk
  have HK0 := Lib.hid hk0
  rw [hw1] at hz hel2
  have HZ := Lib.hid hz
  have hkb : ((kd : Int) == 0) = false := by rw [beq_eq_false_iff_ne]; omega
  clear hz hel hw0 hk hk0
  go_enter Try.func47, Try.ntmps47
  go_wp2_with fail
  refine (annalsref30_kindOf.calls K w0 kd _ HK.out).mono ?_
  rintro e w2 ⟨rfl, hb2⟩
  have HZ2 := Lib.hid (HZ.out.call hb2)
  clear hb2 hel2 hw1 HZ
  go_wp2_with fail
  refine (annalsref30_row.calls (kd : Int) wd nn ss mo false _ HRow.out).mono ?_
  rintro e w3 ⟨rfl, hb3⟩
  have HW3 := Lib.hid (RW.start (wd := wd) (nn := nn) (ss := ss) (mo := mo) (oo := false) (HZ2.out.call hb3))
  clear hb3 HZ2
  go_upto_region 8 with (fail)
  generalize w3.alloc _ = w4 at HW3 ⊢
  obtain ⟨q1, q2, q3, q4⟩ := HW3.out.cells
  generalize w3.heap.size = rb at HW3 q1 q2 q3 q4 ⊢
  have hm1 : 0 ≤ (ws.length : Int) - 1 := by omega
  cases hbad : badL (ws.length - 1) nn ss mo with
  | true =>
    have e : R = (z52, 300) := by rw [HX.out, hbad]; exact if_pos rfl
    have E := Lib.hid e
    have two : decide ((ws.length : Int) - 1 < (nn : Int) + (ss : Int)) = true ∨ (decide ((ws.length : Int) - 1 < (nn : Int) + (ss : Int)) = false ∧ decide ((ws.length : Int) - 1 > (nn : Int) + (ss : Int)) = true ∧ ((mo : Int) == 0) = true) := by
      simp only [badL, Bool.or_eq_true, Bool.and_eq_true, decide_eq_true_eq] at hbad
      rcases hbad with h | ⟨h1, h2⟩
      · exact .inl (decide_eq_true (by omega))
      · exact .inr ⟨decide_eq_false (by omega), decide_eq_true (by omega), by rw [h2]; rfl⟩
    clear e hbad
    rcases two with b1 | ⟨b1, b2, b3⟩
    all_goals
      obtain ⟨d0, f0, d1, f1, d2, f2, d3, f3, d4, f4, d5, f5, d6, f6, d7, f7, d8, f8⟩ := HW3.out.z.cells
      go_wp2_with fail
      obtain ⟨hbk, hbl⟩ := HW3.out.z.put (.int .i64 0) (.slice none 0 0) (.slice none 0 0) (.int .i64 0) (.int .i64 0) (.int .i64 0) (.int .i64 0) (.int .i64 0) (.int .i64 0)
      rw [E.out]
      exact rstep_end (x := (z52, 300)) rfl rfl hbk (Kd.R_nil _ _ _ _ _) (Kd.R_nil _ _ _ _ _) hbl
  | false =>
    have hge : nn + ss ≤ ws.length - 1 ∧ (nn + ss < ws.length - 1 → mo ≠ 0) := by
      simp only [badL, Bool.or_eq_false_iff, Bool.and_eq_false_iff, decide_eq_false_iff_not] at hbad
      exact ⟨by omega, fun h => by rcases hbad.2 with h1 | h1 <;> omega⟩
    obtain ⟨hnum, hnl⟩ := HN2.out hbad
    have b1 : decide ((ws.length : Int) - 1 < (nn : Int) + (ss : Int)) = false := decide_eq_false (by omega)
    have two : decide ((ws.length : Int) - 1 > (nn : Int) + (ss : Int)) = false ∨ (decide ((ws.length : Int) - 1 > (nn : Int) + (ss : Int)) = true ∧ ((mo : Int) == 0) = false) := by
      by_cases h : nn + ss < ws.length - 1
      · exact .inr ⟨decide_eq_true (by omega), by rw [beq_eq_false_iff_ne]; have := hge.2 h; omega⟩
      · exact .inl (decide_eq_false (by omega))
    obtain ⟨nq, hnq⟩ : ∃ nq, cntL (ws.length - 1) nn ss mo = nq := ⟨_, rfl⟩
    rw [hnq] at hnum hnl
    have hle : 1 + nq ≤ ws.length := by rw [← hnq]; unfold cntL; split <;> omega
    have HNQ := Lib.hid hnq
    have HNUM := Lib.hid hnum
    have HNL := Lib.hid hnl
    have HBAD := Lib.hid hbad
    have hge1 := hge.1
    clear hnq hnum hnl hbad hge
    by_cases hmo : mo = 1
    case' pos =>
      have b4 : ((mo : Int) == 1) = true := by rw [hmo]; rfl
      have hqe : (ws.length : Int) - 1 - (ss : Int) = (nq : Int) := by rw [← HNQ.out]; unfold cntL; rw [if_pos hmo]; omega
      have HQE := Lib.hid hqe
      clear hqe hmo
      rcases two with b2 | ⟨b2, b3⟩
      all_goals
        go_upto_region 13 with (fail)
        rw [HQE.out]
    case' neg =>
      have b4 : ((mo : Int) == 1) = false := by rw [beq_eq_false_iff_ne]; omega
      have hqe : nn = nq := by rw [← HNQ.out]; unfold cntL; rw [if_neg hmo]
      have HQE := Lib.hid hqe
      clear hqe hmo
      rcases two with b2 | ⟨b2, b3⟩
      all_goals
        go_upto_region 13 with (fail)
        rw [HQE.out]
    all_goals
      obtain ⟨Ax, hsl, hAx⟩ := slice_mid ad c ws nq hle hc
      have HAx := Lib.hid (hAx w4 (Kd.C_below HR.out HW3.out.z.below))
      clear hAx
      go_wp2_with fail
      have hlq : ((ws.take (1 + nq)).drop 1).length = nq := by rw [List.length_drop, List.length_take]; omega
      have hcall := annalsref30_numbersOf.calls K Ax (c - 1) ((ws.take (1 + nq)).drop 1) nums er w4 (by rw [hlq]; exact HAx.out) (by omega) HNUM.out
      rw [hlq] at hcall
      refine hcall.mono ?_
      rintro e w5 ⟨vn, rfl, hRn, hb5⟩
      have HW5 := Lib.hid (HW3.out.call hb5)
      obtain ⟨An, cn, e, hln, hCn⟩ := Kd.R_reads hRn
      subst e
      have HRn := Lib.hid hRn
      have HCn := Lib.hid hCn
      obtain ⟨q1, q2, q3, q4⟩ := HW5.out.cells
      have HB5 := Lib.hid hb5
      have hgl : w.heap.size < w4.heap.size := lt_of_block HW3.out.z.block
      have hrb : rb < w5.heap.size := lt_of_block HW5.out.row
      clear hcall hlq hsl hRn hCn hb5 HW3
      by_cases her : er = 0
      · have e : R = (⟨(kd : Int), nums, ws.drop (1 + nq), z50⟩, 0) := by rw [HX.out, HBAD.out, if_neg (by decide), if_neg (fun h => h her)]; rw [HNQ.out]
        have E := Lib.hid e
        subst her
        clear e
        go_wp2_with fail
        have hst : Hid (RL w5.heap.size w.heap.size (kd : Int) z50 ⟨nums, [], []⟩ (.slice An nums.length cn) (.slice none 0 0) w w4 (w5.alloc (.cells #[.int .i64 (kd : Int), (.slice An nums.length cn), .slice none 0 0, .int .i64 0, .int .i64 0, .int .i64 0, .int .i64 0, .int .i64 0, .int .i64 0] 52))) := RL.start (kd := (kd : Int)) (o := z50) (v1 := (.slice An nums.length cn)) HW5.out.z hgl HB5.out HRn.out
        generalize w5.alloc _ = w6 at hst ⊢
        generalize w5.heap.size = B at hst ⊢
        clear HCn HRn HW5 q1 q2 q3 q4 HB5 hrb hln
        go_loopg [11] (ws.length - (1 + nq)) (fun gk v11 wr => ∃ (j : Nat) (vS : Value), v11 = .int .i64 j ∧ 1 + nq ≤ j ∧ j ≤ ws.length ∧ gk + j = ws.length ∧ Hid (RL B w.heap.size (kd : Int) z50 ⟨nums, (ws.drop (1 + nq)).take (j - (1 + nq)), []⟩ (.slice An nums.length cn) vS w w4 wr))
        case atStart => exact ⟨1 + nq, _, by go_num, Nat.le_refl _, hle, by omega, by rw [Nat.sub_self, List.take_zero]; exact hst⟩
        case round =>
          clear hst
          obtain ⟨j, vS, rfl, hj1, hj2, hgk, HW⟩ := hrel
          by_cases hlt : j < ws.length
          · obtain ⟨gk', rfl⟩ : ∃ m, gk = m + 1 := ⟨gk - 1, by omega⟩
            obtain ⟨ad', e', hel⟩ := Kd.at_string HR.out (j : Int) (by omega) (by omega)
            obtain rfl : ad = ad' := by injection e'
            have helw : w.cell? (ad.add j) = some (.string (ws.getD j ByteArray.empty)) := by simpa [rdOf] using hel
            have hts := drop_take_succ ws ByteArray.empty (1 + nq) j hj1 hlt
            have HTS := Lib.hid hts
            have hSl : ((ws.drop (1 + nq)).take (j - (1 + nq))).length ≤ 1073741824 := by rw [List.length_take, List.length_drop]; omega
            generalize ws.getD j ByteArray.empty = wi at *
            generalize hSS : (ws.drop (1 + nq)).take (j - (1 + nq)) = SS at *
            have HWd := Lib.hid (HW.out.call (w1 := wr.drew) (below_drew (Below.refl _ _)))
            have HEL := Lib.hid helw
            have hel2 : wr.cell? (ad.add j) = some (.string wi) := (HW.out.sf.below.cell (World.block_lt_of_cell? _ _ helw)).trans helw
            have hc2 : wr.cell? ⟨B, 2, none⟩ = some vS := HW.out.cell 2
            clear hel hts e' helw hSS
            have hlti : (j : Int) < (ws.length : Int) := by omega
            have hlti2 : decide (j < ws.length) = true := decide_eq_true hlt
            go_wp2_with fail
            refine start_ (n := 10) (S := fun w' => w'.cell? ⟨B, 2, none⟩ = some vS ∧ w'.cell? (ad.add j) = some (.string wi)) (ds := [9]) #[false, false, false, false, false, false, false, false, false, false] (by kernel_rfl) rfl rfl ⟨by go_simp, by go_simp⟩ (fun hHeld => ?_)
            refine pure_ (i := 0) (N := some 101) (v := ?_) (a' := ?_) #[true, false, false, false, false, false, false, false, false, false] rfl rfl (by kernel_rfl) (fun _ _ _ h => h) (Or.inl ⟨by rfl, ?_⟩) ?_ ?_
            rotate_left
            · intro w'
              go_simp
              with_reducible rfl
            rotate_left
            · simp only [Act.put, List.setIfInBounds_toArray, List.set_cons_zero, List.set_cons_succ, i64_w, i32_w]
              rfl
            refine pure_ (i := 2) (N := some 103) (v := ?_) (a' := ?_) #[true, false, true, false, false, false, false, false, false, false] rfl rfl (by kernel_rfl) (fun _ _ _ h => h) (Or.inl ⟨by rfl, ?_⟩) ?_ ?_
            rotate_left
            · intro w'
              go_simp
              with_reducible rfl
            rotate_left
            · simp only [Act.put, List.setIfInBounds_toArray, List.set_cons_zero, List.set_cons_succ, i64_w, i32_w]
              rfl
            refine pure_ (i := 3) (N := some 104) (v := ?_) (a' := ?_) #[true, false, true, true, false, false, false, false, false, false] rfl rfl (by kernel_rfl) (fun _ _ _ h => h) (Or.inl ⟨by rfl, ?_⟩) ?_ ?_
            rotate_left
            · intro w'
              go_simp
              with_reducible rfl
            rotate_left
            · simp only [Act.put, List.setIfInBounds_toArray, List.set_cons_zero, List.set_cons_succ, i64_w, i32_w]
              rfl
            refine pure_ (i := 4) (N := some 105) (v := ?_) (a' := ?_) #[true, false, true, true, true, false, false, false, false, false] rfl rfl (by kernel_rfl) (fun _ _ _ h => h) (Or.inl ⟨by rfl, ?_⟩) ?_ ?_
            rotate_left
            · intro w'
              go_simp
              with_reducible rfl
            rotate_left
            · simp only [Act.put, List.setIfInBounds_toArray, List.set_cons_zero, List.set_cons_succ, i64_w, i32_w]
              rfl
            refine take_ (i := 1) (N := some 102) (v := ?_) (a' := ?_) #[true, true, true, true, true, false, false, false, false, false] rfl rfl (by kernel_rfl) (fun _ _ _ h => h) (Or.inl ⟨by rfl, ?_⟩) hHeld ?_ ?_
            rotate_left
            · rintro w' ⟨s0, s1⟩
              go_simp
              with_reducible rfl
            rotate_left
            · simp only [Act.put, List.setIfInBounds_toArray, List.set_cons_zero, List.set_cons_succ, i64_w, i32_w]
              rfl
            refine take_ (i := 5) (N := some 106) (v := ?_) (a' := ?_) #[true, true, true, true, true, true, false, false, false, false] rfl rfl (by kernel_rfl) (fun _ _ _ h => h) (Or.inl ⟨by rfl, ?_⟩) hHeld ?_ ?_
            rotate_left
            · rintro w' ⟨s0, s1⟩
              go_simp
              with_reducible rfl
            rotate_left
            · simp only [Act.put, List.setIfInBounds_toArray, List.set_cons_zero, List.set_cons_succ, i64_w, i32_w]
              rfl
            refine one_ (i := 6) (N := some 107) #[true, true, true, true, true, true, true, false, false, false] rfl rfl (by kernel_rfl) (by decide) (fun K hK => ?_)
            refine value_ (w1 := ?_) (v := ?_) (by rfl) rfl ?_ ?_
            rotate_left 2
            · go_simp
              constructor
              · rfl
              · rfl
            refine hK.out _ _ ⟨pw_cell_below (below_drew (below_alloc (Below.refl _ _) _)) hc2, pw_cell_below (below_drew (below_alloc (Below.refl _ _) _)) hel2⟩ (fun hHeld => ?_)
            clear hK K
            refine norm_ (a' := ?_) ?_ ?_
            rotate_left
            · show Act.put _ (some 107) _ = _
              simp only [Act.put, List.setIfInBounds_toArray, List.set_cons_zero, List.set_cons_succ, i64_w, i32_w]
              rfl
            refine one_ (i := 7) (N := some 108) #[true, true, true, true, true, true, true, true, false, false] rfl rfl (by kernel_rfl) (by decide) (fun K hK => ?_)
            refine Kd.R_append_step Kd.string (w0 := w4) w4.heap.size (by rfl) (.tmp 102) (.tmp 107) 28 9 (.string ⟨#[]⟩) 16 rfl Try.underlying28 info9 rfl (by decide) (by omega) vS SS wi [.string wi] (fun k => k ≠ B ∧ k ≠ w.heap.size) (fun _ => False) rfl rfl rfl (fun _ hk => hk.elim) HWd.out.fresh HWd.out.sf.S HWd.out.b4 HWd.out.b4.size (by omega) ?_
            intro v1 w8 ho hb hg hat
            obtain ⟨hc1, hf1, hbw, hs⟩ := HWd.out.putS ho hg
            obtain ⟨A1, n1, c1, e1⟩ : ∃ A1 n1 c1, v1 = .slice A1 n1 c1 := (by obtain ⟨A1, c1, e1⟩ := Kd.R_slice ho; exact ⟨_, _, _, e1⟩)
            subst e1
            have HS := Lib.hid hs
            have hel8 := (hbw.cell (World.block_lt_of_cell? _ _ HEL.out)).trans HEL.out
            clear ho hb hg hat hs hbw
            refine hK.out _ _ ⟨hc1, hel8⟩ (fun hHeld => ?_)
            clear hK K
            refine norm_ (a' := ?_) ?_ ?_
            rotate_left
            · show Act.put _ (some 108) _ = _
              simp only [Act.put, List.setIfInBounds_toArray, List.set_cons_zero, List.set_cons_succ, i64_w, i32_w]
              rfl
            refine pure_ (i := 8) (N := some 109) (v := ?_) (a' := ?_) #[true, true, true, true, true, true, true, true, true, false] rfl rfl (by kernel_rfl) (fun _ _ _ h => h) (Or.inl ⟨by rfl, ?_⟩) ?_ ?_
            rotate_left
            · intro w'
              go_simp
              with_reducible rfl
            rotate_left
            · simp only [Act.put, List.setIfInBounds_toArray, List.set_cons_zero, List.set_cons_succ, i64_w, i32_w]
              rfl
            refine last_ (i := 9) (N := none) #[true, true, true, true, true, true, true, true, true, true] rfl rfl (by kernel_rfl) (by decide) (fun K hK => ?_)
            refine skip_ (w1 := ?_) (by rfl) rfl ?_ ?_
            rotate_left
            · go_simp
              rfl
            refine hK.out _ _ ?_
            clear hK K
            refine done_ (by kernel_rfl) ?_
            go_wp2_with fail
            go_roundg gk'
            case rel => exact ⟨j + 1, _, by go_num, by omega, by omega, by omega, by rw [HTS.out]; exact HS⟩
            case measure => omega
          · obtain rfl : j = ws.length := by omega
            have hall : (ws.drop (1 + nq)).take (ws.length - (1 + nq)) = ws.drop (1 + nq) := List.take_of_length_le (by rw [List.length_drop]; omega)
            rw [hall] at HW
            obtain ⟨nS, AS, cS, e1⟩ : ∃ n A c, vS = .slice A n c := (by obtain ⟨A1, c1, e1⟩ := Kd.R_slice HW.out.sf.S; exact ⟨_, _, _, e1⟩)
            subst e1
            obtain ⟨a0, a1, a2, a3, a4, a5, a6, a7, a8⟩ := HW.out.cells
            obtain ⟨d0, f0, d1, f1, d2, f2, d3, f3, d4, f4, d5, f5, d6, f6, d7, f7, d8, f8⟩ := HW.out.sf.cells
            have hlt9 := HW.out.sf.lt
            have hltj : ¬ (ws.length : Int) < (ws.length : Int) := by omega
            clear hall hgk hj1 hj2 hlt
            go_wp2_with fail
            obtain ⟨hbk, hN, hS, hbl⟩ := HW.out.sf.fin (.int .i64 (kd : Int)) (.slice An nums.length cn) (.slice AS nS cS) (.int .i64 0) (.int .i64 0) (.int .i64 0) (.int .i64 0) (.int .i64 0) (.int .i64 0)
            rw [E.out]
            exact rstep_end (x := (⟨(kd : Int), nums, ws.drop (1 + nq), z50⟩, 0)) rfl rfl hbk hN hS hbl
      · have heb : (er != 0) = true := by simpa using her
        have e : R = (z52, er) := by rw [HX.out, HBAD.out, if_neg (by decide)]; exact if_pos her
        have E := Lib.hid e
        obtain ⟨d0, f0, d1, f1, d2, f2, d3, f3, d4, f4, d5, f5, d6, f6, d7, f7, d8, f8⟩ := HW5.out.z.cells
        clear e her
        go_wp2_with fail
        obtain ⟨hbk, hbl⟩ := HW5.out.z.put (.int .i64 0) (.slice none 0 0) (.slice none 0 0) (.int .i64 0) (.int .i64 0) (.int .i64 0) (.int .i64 0) (.int .i64 0) (.int .i64 0)
        rw [E.out]
        exact rstep_end (x := (z52, er)) rfl rfl hbk (Kd.R_nil _ _ _ _ _) (Kd.R_nil _ _ _ _ _) hbl
end Go.Proofs.Ytnpmkaklkonofaa.Txt


/- annalsref30.StepOf where six numbers of options stand. -/
namespace Go.Proofs.Ytnpmkaklkonofaa.Txt
open Go.RowKit Go.Proofs.YtnpmkaklkonofaaW.PrintWords Go.Proofs.YtnpmkaklkonofaaW.PrintLast Go.Proofs.Ytnpmkaklkonofaa.Hand Go.Proofs.Ytnpmkaklkonofaa.Q Go.Proofs.YtnpmkaklkonofaaW.PrintMore

set_option maxHeartbeats 2000000 in
set_option maxRecDepth 100000 in
theorem rstepO_calls (K : Nat) (A : Option Addr) (c : Nat) (ws : List ByteArray) (w : World) (hr : Kd.C Kd.string w A ws.length ws) (hc : ws.length ≤ c) (hpos : 0 < ws.length) (hl : ws.length ≤ 1073741824)
    (kd : Nat) (wd : ByteArray) (nums : List Int) (er : Int) (hk : annalsref30_kindOf.f K (ws.getD 0 ByteArray.empty) = some (kd : Int)) (hk0 : kd ≠ 0) (hrow : annalsref30_row.f (kd : Int) = some (wd, 0, 0, 0, true))
    (hn : ws.length = 7 → annalsref30_numbersOf.f K ((ws.take (1 + 6)).drop 1) = some (nums, er) ∧ (er = 0 → nums.length = 6)) :
    Calls Try.prog 47 #[.slice A ws.length c] w (StepAns (rstepP ws kd 0 0 0 true nums er) w) := by
  obtain ⟨R, hR⟩ : ∃ R, rstepP ws kd 0 0 0 true nums er = R := ⟨_, rfl⟩
  rw [hR]
  have HR := Lib.hid hr
  have HRow := Lib.hid hrow
  have HN2 := Lib.hid hn
  have hX : R = (if badL (ws.length - 1) 6 0 0 = true then (z52, 300) else if er ≠ 0 then (z52, er) else (⟨(kd : Int), [], ws.drop (1 + cntL (ws.length - 1) 6 0 0), optsL nums⟩, 0)) := by rw [← hR]; rfl
  have HX := Lib.hid hX
  clear hr hn hrow hR hX
  have hu1 := Try.underlying52
  have hu2 := Try.underlying50
  have hu3 := Try.underlying104
  have hz := ZW.start w
  obtain ⟨w1, hw1⟩ : ∃ w1, w.alloc (.cells #[.int .i64 0, .slice none 0 0, .slice none 0 0, .int .i64 0, .int .i64 0, .int .i64 0, .int .i64 0, .int .i64 0, .int .i64 0] 52) = w1 := ⟨_, rfl⟩
  obtain ⟨ad, e, hel⟩ := Kd.at_string (Kd.C_below HR.out hz.below) 0 (by omega) (by omega)
  subst e
  obtain ⟨w0, hw0⟩ : ∃ w0, ws.getD 0 ByteArray.empty = w0 := ⟨_, rfl⟩
  have hel2 : (w.alloc (.cells #[.int .i64 0, .slice none 0 0, .slice none 0 0, .int .i64 0, .int .i64 0, .int .i64 0, .int .i64 0, .int .i64 0, .int .i64 0] 52)).cell? ad = some (.string w0) := hw0 ▸ hel
  rw [hw0] at hk
  have HK := Lib.hid hk
  have HK0 := Lib.hid hk0
  rw [hw1] at hz hel2
  have HZ := Lib.hid hz
  have hkb : ((kd : Int) == 0) = false := by rw [beq_eq_false_iff_ne]; omega
  clear hz hel hw0 hk hk0
  go_enter Try.func47, Try.ntmps47
  go_wp2_with fail
  refine (annalsref30_kindOf.calls K w0 kd _ HK.out).mono ?_
  rintro e w2 ⟨rfl, hb2⟩
  have HZ2 := Lib.hid (HZ.out.call hb2)
  clear hb2 hel2 hw1 HZ
  go_wp2_with fail
  refine (annalsref30_row.calls (kd : Int) wd 0 0 0 true _ HRow.out).mono ?_
  rintro e w3 ⟨rfl, hb3⟩
  have HW3 := Lib.hid (RW.start (wd := wd) (nn := 0) (ss := 0) (mo := 0) (oo := true) (HZ2.out.call hb3))
  clear hb3 HZ2
  go_upto_region 8 with (fail)
  generalize w3.alloc _ = w4 at HW3 ⊢
  obtain ⟨q1, q2, q3, q4⟩ := HW3.out.cells
  generalize w3.heap.size = rb at HW3 q1 q2 q3 q4 ⊢
  have hm1 : 0 ≤ (ws.length : Int) - 1 := by omega
  by_cases hlen : ws.length = 7
  · obtain ⟨hnum, hnl⟩ := HN2.out hlen
    have hbad : badL (ws.length - 1) 6 0 0 = false := by rw [hlen]; rfl
    have HBAD := Lib.hid hbad
    have b1 : decide ((ws.length : Int) - 1 < 6) = false := decide_eq_false (by omega)
    have b2 : decide ((ws.length : Int) - 1 > 6) = false := decide_eq_false (by omega)
    have hi3 : (7 : Int) ≤ (ws.length : Int) := by omega
    have hle : 1 + 6 ≤ ws.length := by omega
    have HNQ := Lib.hid (show cntL (ws.length - 1) 6 0 0 = 6 from rfl)
    have HNUM := Lib.hid hnum
    have HNL := Lib.hid hnl
    have HLEN := Lib.hid hlen
    have hlen1 : 7 ≤ ws.length := by omega
    have hlen2 : ws.length ≤ 7 := by omega
    clear hnum hnl hbad hlen
    go_upto_region 13 with (fail)
    obtain ⟨Ax, hsl, hAx⟩ := slice_mid ad c ws 6 hle hc
    replace hsl : ∀ W : World, (Instr.slice 28 (.slice (some ad) ws.length c) (some (.int .i64 1)) (some (.int .i64 7)) none).run Try.prog W = .ok (.slice Ax 6 (c - 1)) W := hsl
    have HAx := Lib.hid (hAx w4 (Kd.C_below HR.out HW3.out.z.below))
    clear hAx
    go_wp2_with fail
    have hlq : ((ws.take (1 + 6)).drop 1).length = 6 := by rw [List.length_drop, List.length_take]; omega
    have hcall := annalsref30_numbersOf.calls K Ax (c - 1) ((ws.take (1 + 6)).drop 1) nums er w4 (by rw [hlq]; exact HAx.out) (by omega) HNUM.out
    rw [hlq] at hcall
    refine hcall.mono ?_
    rintro e w5 ⟨vn, rfl, hRn, hb5⟩
    have HW5 := Lib.hid (HW3.out.call hb5)
    obtain ⟨An, cn, e, hln, hCn⟩ := Kd.R_reads hRn
    subst e
    have HRn := Lib.hid hRn
    have HCn := Lib.hid hCn
    obtain ⟨q1, q2, q3, q4⟩ := HW5.out.cells
    have HB5 := Lib.hid hb5
    have hgl : w.heap.size < w4.heap.size := lt_of_block HW3.out.z.block
    have hrb : rb < w5.heap.size := lt_of_block HW5.out.row
    clear hcall hlq hsl hRn hCn hb5 HW3
    by_cases her : er = 0
    · have e : R = (⟨(kd : Int), [], ws.drop (1 + 6), optsL nums⟩, 0) := by rw [HX.out, HBAD.out, if_neg (by decide), if_neg (fun h => h her), HNQ.out]
      have E := Lib.hid e
      subst her
      clear e
      obtain ⟨o0, o1, o2, o3, o4, o5, hO⟩ : ∃ o0 o1 o2 o3 o4 o5, nums = [o0, o1, o2, o3, o4, o5] := by
        match nums, HNL.out rfl with
        | [o0, o1, o2, o3, o4, o5], _ => exact ⟨o0, o1, o2, o3, o4, o5, rfl⟩
      have HOL := Lib.hid (show optsL nums = ⟨o0, o1, o2, o3, o4, o5⟩ by rw [hO]; rfl)
      have hC6 := HCn.out
      rw [hO] at hC6
      have cells6 : ∃ ao, An = some ao ∧ w5.cell? ao = some (.int .i64 o0) ∧ w5.cell? { block := ao.block, off := ao.off + 1 } = some (.int .i64 o1) ∧ w5.cell? { block := ao.block, off := ao.off + 2 } = some (.int .i64 o2) ∧ w5.cell? { block := ao.block, off := ao.off + 3 } = some (.int .i64 o3) ∧ w5.cell? { block := ao.block, off := ao.off + 4 } = some (.int .i64 o4) ∧ w5.cell? { block := ao.block, off := ao.off + 5 } = some (.int .i64 o5) := by
        obtain ⟨y0, e0, g0⟩ := Kd.at_int hC6 0 (by omega) (by simp)
        obtain ⟨y1, e1, g1⟩ := Kd.at_int hC6 1 (by omega) (by simp)
        obtain ⟨y2, e2, g2⟩ := Kd.at_int hC6 2 (by omega) (by simp)
        obtain ⟨y3, e3, g3⟩ := Kd.at_int hC6 3 (by omega) (by simp)
        obtain ⟨y4, e4, g4⟩ := Kd.at_int hC6 4 (by omega) (by simp)
        obtain ⟨y5, e5, g5⟩ := Kd.at_int hC6 5 (by omega) (by simp)
        subst e0
        obtain rfl : y0 = y1 := by injection e1
        obtain rfl : y0 = y2 := by injection e2
        obtain rfl : y0 = y3 := by injection e3
        obtain rfl : y0 = y4 := by injection e4
        obtain rfl : y0 = y5 := by injection e5
        exact ⟨y0, rfl, g0, g1, g2, g3, g4, g5⟩
      obtain ⟨ao, eao, r0, r1, r2, r3, r4, r5⟩ := cells6
      subst eao
      rw [hO] at hln
      have hl6 : nums.length = 6 := by rw [hO]; rfl
      have hcn6 : 6 ≤ cn := hln
      clear hC6 hO hln
      go_upto_region 18 with (fail)
      refine start_ (n := 21) (S := fun w' => w'.cell? ao = some (.int .i64 o0) ∧ w'.cell? { block := ao.block, off := ao.off + 1 } = some (.int .i64 o1) ∧ w'.cell? { block := ao.block, off := ao.off + 2 } = some (.int .i64 o2) ∧ w'.cell? { block := ao.block, off := ao.off + 3 } = some (.int .i64 o3) ∧ w'.cell? { block := ao.block, off := ao.off + 4 } = some (.int .i64 o4) ∧ w'.cell? { block := ao.block, off := ao.off + 5 } = some (.int .i64 o5)) (ds := [20]) #[false, false, false, false, false, false, false, false, false, false, false, false, false, false, false, false, false, false, false, false, false] (by kernel_rfl) rfl rfl ⟨pw_cell_below (below_drew (below_alloc (Below.refl _ _) _)) r0, pw_cell_below (below_drew (below_alloc (Below.refl _ _) _)) r1, pw_cell_below (below_drew (below_alloc (Below.refl _ _) _)) r2, pw_cell_below (below_drew (below_alloc (Below.refl _ _) _)) r3, pw_cell_below (below_drew (below_alloc (Below.refl _ _) _)) r4, pw_cell_below (below_drew (below_alloc (Below.refl _ _) _)) r5⟩ (fun hHeld => ?_)
      refine pure_ (i := 0) (N := some 71) (v := ?_) (a' := ?_) #[true, false, false, false, false, false, false, false, false, false, false, false, false, false, false, false, false, false, false, false, false] rfl rfl (by kernel_rfl) (fun _ _ _ h => h) (Or.inl ⟨by rfl, ?_⟩) ?_ ?_
      rotate_left
      · intro w'
        go_simp
        with_reducible rfl
      rotate_left
      · simp only [Act.put, List.setIfInBounds_toArray, List.set_cons_zero, List.set_cons_succ, i64_w, i32_w]
        rfl
      refine pure_ (i := 1) (N := some 72) (v := ?_) (a' := ?_) #[true, true, false, false, false, false, false, false, false, false, false, false, false, false, false, false, false, false, false, false, false] rfl rfl (by kernel_rfl) (fun _ _ _ h => h) (Or.inl ⟨by rfl, ?_⟩) ?_ ?_
      rotate_left
      · intro w'
        go_simp
        with_reducible rfl
      rotate_left
      · simp only [Act.put, List.setIfInBounds_toArray, List.set_cons_zero, List.set_cons_succ, i64_w, i32_w]
        rfl
      refine pure_ (i := 3) (N := some 74) (v := ?_) (a' := ?_) #[true, true, false, true, false, false, false, false, false, false, false, false, false, false, false, false, false, false, false, false, false] rfl rfl (by kernel_rfl) (fun _ _ _ h => h) (Or.inl ⟨by rfl, ?_⟩) ?_ ?_
      rotate_left
      · intro w'
        go_simp
        with_reducible rfl
      rotate_left
      · simp only [Act.put, List.setIfInBounds_toArray, List.set_cons_zero, List.set_cons_succ, i64_w, i32_w]
        rfl
      refine pure_ (i := 4) (N := some 75) (v := ?_) (a' := ?_) #[true, true, false, true, true, false, false, false, false, false, false, false, false, false, false, false, false, false, false, false, false] rfl rfl (by kernel_rfl) (fun _ _ _ h => h) (Or.inl ⟨by rfl, ?_⟩) ?_ ?_
      rotate_left
      · intro w'
        go_simp
        with_reducible rfl
      rotate_left
      · simp only [Act.put, List.setIfInBounds_toArray, List.set_cons_zero, List.set_cons_succ, i64_w, i32_w]
        rfl
      refine pure_ (i := 6) (N := some 77) (v := ?_) (a' := ?_) #[true, true, false, true, true, false, true, false, false, false, false, false, false, false, false, false, false, false, false, false, false] rfl rfl (by kernel_rfl) (fun _ _ _ h => h) (Or.inl ⟨by rfl, ?_⟩) ?_ ?_
      rotate_left
      · intro w'
        go_simp
        with_reducible rfl
      rotate_left
      · simp only [Act.put, List.setIfInBounds_toArray, List.set_cons_zero, List.set_cons_succ, i64_w, i32_w]
        rfl
      refine pure_ (i := 7) (N := some 78) (v := ?_) (a' := ?_) #[true, true, false, true, true, false, true, true, false, false, false, false, false, false, false, false, false, false, false, false, false] rfl rfl (by kernel_rfl) (fun _ _ _ h => h) (Or.inl ⟨by rfl, ?_⟩) ?_ ?_
      rotate_left
      · intro w'
        go_simp
        with_reducible rfl
      rotate_left
      · simp only [Act.put, List.setIfInBounds_toArray, List.set_cons_zero, List.set_cons_succ, i64_w, i32_w]
        rfl
      refine pure_ (i := 9) (N := some 80) (v := ?_) (a' := ?_) #[true, true, false, true, true, false, true, true, false, true, false, false, false, false, false, false, false, false, false, false, false] rfl rfl (by kernel_rfl) (fun _ _ _ h => h) (Or.inl ⟨by rfl, ?_⟩) ?_ ?_
      rotate_left
      · intro w'
        go_simp
        with_reducible rfl
      rotate_left
      · simp only [Act.put, List.setIfInBounds_toArray, List.set_cons_zero, List.set_cons_succ, i64_w, i32_w]
        rfl
      refine pure_ (i := 10) (N := some 81) (v := ?_) (a' := ?_) #[true, true, false, true, true, false, true, true, false, true, true, false, false, false, false, false, false, false, false, false, false] rfl rfl (by kernel_rfl) (fun _ _ _ h => h) (Or.inl ⟨by rfl, ?_⟩) ?_ ?_
      rotate_left
      · intro w'
        go_simp
        with_reducible rfl
      rotate_left
      · simp only [Act.put, List.setIfInBounds_toArray, List.set_cons_zero, List.set_cons_succ, i64_w, i32_w]
        rfl
      refine pure_ (i := 12) (N := some 83) (v := ?_) (a' := ?_) #[true, true, false, true, true, false, true, true, false, true, true, false, true, false, false, false, false, false, false, false, false] rfl rfl (by kernel_rfl) (fun _ _ _ h => h) (Or.inl ⟨by rfl, ?_⟩) ?_ ?_
      rotate_left
      · intro w'
        go_simp
        with_reducible rfl
      rotate_left
      · simp only [Act.put, List.setIfInBounds_toArray, List.set_cons_zero, List.set_cons_succ, i64_w, i32_w]
        rfl
      refine pure_ (i := 13) (N := some 84) (v := ?_) (a' := ?_) #[true, true, false, true, true, false, true, true, false, true, true, false, true, true, false, false, false, false, false, false, false] rfl rfl (by kernel_rfl) (fun _ _ _ h => h) (Or.inl ⟨by rfl, ?_⟩) ?_ ?_
      rotate_left
      · intro w'
        go_simp
        with_reducible rfl
      rotate_left
      · simp only [Act.put, List.setIfInBounds_toArray, List.set_cons_zero, List.set_cons_succ, i64_w, i32_w]
        rfl
      refine pure_ (i := 15) (N := some 86) (v := ?_) (a' := ?_) #[true, true, false, true, true, false, true, true, false, true, true, false, true, true, false, true, false, false, false, false, false] rfl rfl (by kernel_rfl) (fun _ _ _ h => h) (Or.inl ⟨by rfl, ?_⟩) ?_ ?_
      rotate_left
      · intro w'
        go_simp
        with_reducible rfl
      rotate_left
      · simp only [Act.put, List.setIfInBounds_toArray, List.set_cons_zero, List.set_cons_succ, i64_w, i32_w]
        rfl
      refine pure_ (i := 16) (N := some 87) (v := ?_) (a' := ?_) #[true, true, false, true, true, false, true, true, false, true, true, false, true, true, false, true, true, false, false, false, false] rfl rfl (by kernel_rfl) (fun _ _ _ h => h) (Or.inl ⟨by rfl, ?_⟩) ?_ ?_
      rotate_left
      · intro w'
        go_simp
        with_reducible rfl
      rotate_left
      · simp only [Act.put, List.setIfInBounds_toArray, List.set_cons_zero, List.set_cons_succ, i64_w, i32_w]
        rfl
      refine take_ (i := 2) (N := some 73) (v := ?_) (a' := ?_) #[true, true, true, true, true, false, true, true, false, true, true, false, true, true, false, true, true, false, false, false, false] rfl rfl (by kernel_rfl) (fun _ _ _ h => h) (Or.inl ⟨by rfl, ?_⟩) hHeld ?_ ?_
      rotate_left
      · rintro w' ⟨s0, s1, s2, s3, s4, s5⟩
        go_simp
        with_reducible rfl
      rotate_left
      · simp only [Act.put, List.setIfInBounds_toArray, List.set_cons_zero, List.set_cons_succ, i64_w, i32_w]
        rfl
      refine take_ (i := 5) (N := some 76) (v := ?_) (a' := ?_) #[true, true, true, true, true, true, true, true, false, true, true, false, true, true, false, true, true, false, false, false, false] rfl rfl (by kernel_rfl) (fun _ _ _ h => h) (Or.inl ⟨by rfl, ?_⟩) hHeld ?_ ?_
      rotate_left
      · rintro w' ⟨s0, s1, s2, s3, s4, s5⟩
        go_simp
        with_reducible rfl
      rotate_left
      · simp only [Act.put, List.setIfInBounds_toArray, List.set_cons_zero, List.set_cons_succ, i64_w, i32_w]
        rfl
      refine take_ (i := 8) (N := some 79) (v := ?_) (a' := ?_) #[true, true, true, true, true, true, true, true, true, true, true, false, true, true, false, true, true, false, false, false, false] rfl rfl (by kernel_rfl) (fun _ _ _ h => h) (Or.inl ⟨by rfl, ?_⟩) hHeld ?_ ?_
      rotate_left
      · rintro w' ⟨s0, s1, s2, s3, s4, s5⟩
        go_simp
        with_reducible rfl
      rotate_left
      · simp only [Act.put, List.setIfInBounds_toArray, List.set_cons_zero, List.set_cons_succ, i64_w, i32_w]
        rfl
      refine take_ (i := 11) (N := some 82) (v := ?_) (a' := ?_) #[true, true, true, true, true, true, true, true, true, true, true, true, true, true, false, true, true, false, false, false, false] rfl rfl (by kernel_rfl) (fun _ _ _ h => h) (Or.inl ⟨by rfl, ?_⟩) hHeld ?_ ?_
      rotate_left
      · rintro w' ⟨s0, s1, s2, s3, s4, s5⟩
        go_simp
        with_reducible rfl
      rotate_left
      · simp only [Act.put, List.setIfInBounds_toArray, List.set_cons_zero, List.set_cons_succ, i64_w, i32_w]
        rfl
      refine take_ (i := 14) (N := some 85) (v := ?_) (a' := ?_) #[true, true, true, true, true, true, true, true, true, true, true, true, true, true, true, true, true, false, false, false, false] rfl rfl (by kernel_rfl) (fun _ _ _ h => h) (Or.inl ⟨by rfl, ?_⟩) hHeld ?_ ?_
      rotate_left
      · rintro w' ⟨s0, s1, s2, s3, s4, s5⟩
        go_simp
        with_reducible rfl
      rotate_left
      · simp only [Act.put, List.setIfInBounds_toArray, List.set_cons_zero, List.set_cons_succ, i64_w, i32_w]
        rfl
      refine take_ (i := 17) (N := some 88) (v := ?_) (a' := ?_) #[true, true, true, true, true, true, true, true, true, true, true, true, true, true, true, true, true, true, false, false, false] rfl rfl (by kernel_rfl) (fun _ _ _ h => h) (Or.inl ⟨by rfl, ?_⟩) hHeld ?_ ?_
      rotate_left
      · rintro w' ⟨s0, s1, s2, s3, s4, s5⟩
        go_simp
        with_reducible rfl
      rotate_left
      · simp only [Act.put, List.setIfInBounds_toArray, List.set_cons_zero, List.set_cons_succ, i64_w, i32_w]
        rfl
      refine pure_ (i := 18) (N := some 89) (v := ?_) (a' := ?_) #[true, true, true, true, true, true, true, true, true, true, true, true, true, true, true, true, true, true, true, false, false] rfl rfl (by kernel_rfl) (fun _ _ _ h => h) (Or.inl ⟨by rfl, ?_⟩) ?_ ?_
      rotate_left
      · intro w'
        go_simp
        with_reducible rfl
      rotate_left
      · simp only [Act.put, List.setIfInBounds_toArray, List.set_cons_zero, List.set_cons_succ, i64_w, i32_w]
        rfl
      refine pure_ (i := 19) (N := some 90) (v := ?_) (a' := ?_) #[true, true, true, true, true, true, true, true, true, true, true, true, true, true, true, true, true, true, true, true, false] rfl rfl (by kernel_rfl) (fun _ _ _ h => h) (Or.inl ⟨by rfl, ?_⟩) ?_ ?_
      rotate_left
      · intro w'
        go_simp
        with_reducible rfl
      rotate_left
      · simp only [Act.put, List.setIfInBounds_toArray, List.set_cons_zero, List.set_cons_succ, i64_w, i32_w]
        rfl
      refine last_ (i := 20) (N := none) #[true, true, true, true, true, true, true, true, true, true, true, true, true, true, true, true, true, true, true, true, true] rfl rfl (by kernel_rfl) (by decide) (fun K hK => ?_)
      refine skip_ (w1 := ?_) (by rfl) rfl ?_ ?_
      rotate_left
      · go_simp
        rfl
      refine hK.out _ _ ?_
      clear hK K
      refine done_ (by kernel_rfl) ?_
      go_wp2_with fail
      have hst : Hid (RL w5.heap.size w.heap.size (kd : Int) (⟨o0, o1, o2, o3, o4, o5⟩ : S50) ⟨[], [], []⟩ (.slice none 0 0) (.slice none 0 0) w w4 (w5.alloc (.cells #[.int .i64 (kd : Int), (.slice none 0 0), .slice none 0 0, .int .i64 o0, .int .i64 o1, .int .i64 o2, .int .i64 o3, .int .i64 o4, .int .i64 o5] 52))) := RL.start (kd := (kd : Int)) (o := (⟨o0, o1, o2, o3, o4, o5⟩ : S50)) (v1 := (.slice none 0 0)) HW5.out.z hgl HB5.out (Kd.R_nil _ _ _ _ _)
      generalize w5.alloc _ = w6 at hst ⊢
      replace hst := Lib.hid (hst.out.call (w1 := w6.drew) (below_drew (Below.refl _ _)))
      generalize w6.drew = w6' at hst ⊢
      generalize w5.heap.size = B at hst ⊢
      clear HCn HRn HW5 q1 q2 q3 q4 HB5 hrb r0 r1 r2 r3 r4 r5
      go_loopg [11] (ws.length - (1 + 6)) (fun gk v11 wr => ∃ (j : Nat) (vS : Value), v11 = .int .i64 j ∧ 1 + 6 ≤ j ∧ j ≤ ws.length ∧ gk + j = ws.length ∧ Hid (RL B w.heap.size (kd : Int) (⟨o0, o1, o2, o3, o4, o5⟩ : S50) ⟨[], (ws.drop (1 + 6)).take (j - (1 + 6)), []⟩ (.slice none 0 0) vS w w4 wr))
      case atStart => exact ⟨1 + 6, _, by rfl, Nat.le_refl _, hle, by omega, by rw [Nat.sub_self, List.take_zero]; exact hst⟩
      case round =>
        clear hst
        obtain ⟨j, vS, rfl, hj1, hj2, hgk, HW⟩ := hrel
        by_cases hlt : j < ws.length
        · obtain ⟨gk', rfl⟩ : ∃ m, gk = m + 1 := ⟨gk - 1, by omega⟩
          obtain ⟨ad', e', hel⟩ := Kd.at_string HR.out (j : Int) (by omega) (by omega)
          obtain rfl : ad = ad' := by injection e'
          have helw : w.cell? (ad.add j) = some (.string (ws.getD j ByteArray.empty)) := by simpa [rdOf] using hel
          have hts := drop_take_succ ws ByteArray.empty (1 + 6) j hj1 hlt
          have HTS := Lib.hid hts
          have hSl : ((ws.drop (1 + 6)).take (j - (1 + 6))).length ≤ 1073741824 := by rw [List.length_take, List.length_drop]; omega
          generalize ws.getD j ByteArray.empty = wi at *
          generalize hSS : (ws.drop (1 + 6)).take (j - (1 + 6)) = SS at *
          have HWd := Lib.hid (HW.out.call (w1 := wr.drew) (below_drew (Below.refl _ _)))
          have HEL := Lib.hid helw
          have hel2 : wr.cell? (ad.add j) = some (.string wi) := (HW.out.sf.below.cell (World.block_lt_of_cell? _ _ helw)).trans helw
          have hc2 : wr.cell? ⟨B, 2, none⟩ = some vS := HW.out.cell 2
          clear hel hts e' helw hSS
          have hlti : (j : Int) < (ws.length : Int) := by omega
          have hlti2 : decide (j < ws.length) = true := decide_eq_true hlt
          go_wp2_with fail
          refine start_ (n := 10) (S := fun w' => w'.cell? ⟨B, 2, none⟩ = some vS ∧ w'.cell? (ad.add j) = some (.string wi)) (ds := [9]) #[false, false, false, false, false, false, false, false, false, false] (by kernel_rfl) rfl rfl ⟨by go_simp, by go_simp⟩ (fun hHeld => ?_)
          refine pure_ (i := 0) (N := some 101) (v := ?_) (a' := ?_) #[true, false, false, false, false, false, false, false, false, false] rfl rfl (by kernel_rfl) (fun _ _ _ h => h) (Or.inl ⟨by rfl, ?_⟩) ?_ ?_
          rotate_left
          · intro w'
            go_simp
            with_reducible rfl
          rotate_left
          · simp only [Act.put, List.setIfInBounds_toArray, List.set_cons_zero, List.set_cons_succ, i64_w, i32_w]
            rfl
          refine pure_ (i := 2) (N := some 103) (v := ?_) (a' := ?_) #[true, false, true, false, false, false, false, false, false, false] rfl rfl (by kernel_rfl) (fun _ _ _ h => h) (Or.inl ⟨by rfl, ?_⟩) ?_ ?_
          rotate_left
          · intro w'
            go_simp
            with_reducible rfl
          rotate_left
          · simp only [Act.put, List.setIfInBounds_toArray, List.set_cons_zero, List.set_cons_succ, i64_w, i32_w]
            rfl
          refine pure_ (i := 3) (N := some 104) (v := ?_) (a' := ?_) #[true, false, true, true, false, false, false, false, false, false] rfl rfl (by kernel_rfl) (fun _ _ _ h => h) (Or.inl ⟨by rfl, ?_⟩) ?_ ?_
          rotate_left
          · intro w'
            go_simp
            with_reducible rfl
          rotate_left
          · simp only [Act.put, List.setIfInBounds_toArray, List.set_cons_zero, List.set_cons_succ, i64_w, i32_w]
            rfl
          refine pure_ (i := 4) (N := some 105) (v := ?_) (a' := ?_) #[true, false, true, true, true, false, false, false, false, false] rfl rfl (by kernel_rfl) (fun _ _ _ h => h) (Or.inl ⟨by rfl, ?_⟩) ?_ ?_
          rotate_left
          · intro w'
            go_simp
            with_reducible rfl
          rotate_left
          · simp only [Act.put, List.setIfInBounds_toArray, List.set_cons_zero, List.set_cons_succ, i64_w, i32_w]
            rfl
          refine take_ (i := 1) (N := some 102) (v := ?_) (a' := ?_) #[true, true, true, true, true, false, false, false, false, false] rfl rfl (by kernel_rfl) (fun _ _ _ h => h) (Or.inl ⟨by rfl, ?_⟩) hHeld ?_ ?_
          rotate_left
          · rintro w' ⟨s0, s1⟩
            go_simp
            with_reducible rfl
          rotate_left
          · simp only [Act.put, List.setIfInBounds_toArray, List.set_cons_zero, List.set_cons_succ, i64_w, i32_w]
            rfl
          refine take_ (i := 5) (N := some 106) (v := ?_) (a' := ?_) #[true, true, true, true, true, true, false, false, false, false] rfl rfl (by kernel_rfl) (fun _ _ _ h => h) (Or.inl ⟨by rfl, ?_⟩) hHeld ?_ ?_
          rotate_left
          · rintro w' ⟨s0, s1⟩
            go_simp
            with_reducible rfl
          rotate_left
          · simp only [Act.put, List.setIfInBounds_toArray, List.set_cons_zero, List.set_cons_succ, i64_w, i32_w]
            rfl
          refine one_ (i := 6) (N := some 107) #[true, true, true, true, true, true, true, false, false, false] rfl rfl (by kernel_rfl) (by decide) (fun K hK => ?_)
          refine value_ (w1 := ?_) (v := ?_) (by rfl) rfl ?_ ?_
          rotate_left 2
          · go_simp
            constructor
            · rfl
            · rfl
          refine hK.out _ _ ⟨pw_cell_below (below_drew (below_alloc (Below.refl _ _) _)) hc2, pw_cell_below (below_drew (below_alloc (Below.refl _ _) _)) hel2⟩ (fun hHeld => ?_)
          clear hK K
          refine norm_ (a' := ?_) ?_ ?_
          rotate_left
          · show Act.put _ (some 107) _ = _
            simp only [Act.put, List.setIfInBounds_toArray, List.set_cons_zero, List.set_cons_succ, i64_w, i32_w]
            rfl
          refine one_ (i := 7) (N := some 108) #[true, true, true, true, true, true, true, true, false, false] rfl rfl (by kernel_rfl) (by decide) (fun K hK => ?_)
          refine Kd.R_append_step Kd.string (w0 := w4) w4.heap.size (by rfl) (.tmp 102) (.tmp 107) 28 9 (.string ⟨#[]⟩) 16 rfl Try.underlying28 info9 rfl (by decide) (by omega) vS SS wi [.string wi] (fun k => k ≠ B ∧ k ≠ w.heap.size) (fun _ => False) rfl rfl rfl (fun _ hk => hk.elim) HWd.out.fresh HWd.out.sf.S HWd.out.b4 HWd.out.b4.size (by omega) ?_
          intro v1 w8 ho hb hg hat
          obtain ⟨hc1, hf1, hbw, hs⟩ := HWd.out.putS ho hg
          obtain ⟨A1, n1, c1, e1⟩ : ∃ A1 n1 c1, v1 = .slice A1 n1 c1 := (by obtain ⟨A1, c1, e1⟩ := Kd.R_slice ho; exact ⟨_, _, _, e1⟩)
          subst e1
          have HS := Lib.hid hs
          have hel8 := (hbw.cell (World.block_lt_of_cell? _ _ HEL.out)).trans HEL.out
          clear ho hb hg hat hs hbw
          refine hK.out _ _ ⟨hc1, hel8⟩ (fun hHeld => ?_)
          clear hK K
          refine norm_ (a' := ?_) ?_ ?_
          rotate_left
          · show Act.put _ (some 108) _ = _
            simp only [Act.put, List.setIfInBounds_toArray, List.set_cons_zero, List.set_cons_succ, i64_w, i32_w]
            rfl
          refine pure_ (i := 8) (N := some 109) (v := ?_) (a' := ?_) #[true, true, true, true, true, true, true, true, true, false] rfl rfl (by kernel_rfl) (fun _ _ _ h => h) (Or.inl ⟨by rfl, ?_⟩) ?_ ?_
          rotate_left
          · intro w'
            go_simp
            with_reducible rfl
          rotate_left
          · simp only [Act.put, List.setIfInBounds_toArray, List.set_cons_zero, List.set_cons_succ, i64_w, i32_w]
            rfl
          refine last_ (i := 9) (N := none) #[true, true, true, true, true, true, true, true, true, true] rfl rfl (by kernel_rfl) (by decide) (fun K hK => ?_)
          refine skip_ (w1 := ?_) (by rfl) rfl ?_ ?_
          rotate_left
          · go_simp
            rfl
          refine hK.out _ _ ?_
          clear hK K
          refine done_ (by kernel_rfl) ?_
          go_wp2_with fail
          go_roundg gk'
          case rel => exact ⟨j + 1, _, by go_num, by omega, by omega, by omega, by rw [HTS.out]; exact HS⟩
          case measure => omega
        · obtain rfl : j = ws.length := by omega
          have hall : (ws.drop (1 + 6)).take (ws.length - (1 + 6)) = ws.drop (1 + 6) := List.take_of_length_le (by rw [List.length_drop]; omega)
          rw [hall] at HW
          obtain ⟨nS, AS, cS, e1⟩ : ∃ n A c, vS = .slice A n c := (by obtain ⟨A1, c1, e1⟩ := Kd.R_slice HW.out.sf.S; exact ⟨_, _, _, e1⟩)
          subst e1
          obtain ⟨a0, a1, a2, a3, a4, a5, a6, a7, a8⟩ := HW.out.cells
          obtain ⟨d0, f0, d1, f1, d2, f2, d3, f3, d4, f4, d5, f5, d6, f6, d7, f7, d8, f8⟩ := HW.out.sf.cells
          have hlt9 := HW.out.sf.lt
          have hltj : ¬ (ws.length : Int) < (ws.length : Int) := by omega
          clear hall hgk hj1 hj2 hlt
          go_wp2_with fail
          obtain ⟨hbk, hN, hS, hbl⟩ := HW.out.sf.fin (.int .i64 (kd : Int)) (.slice none 0 0) (.slice AS nS cS) (.int .i64 o0) (.int .i64 o1) (.int .i64 o2) (.int .i64 o3) (.int .i64 o4) (.int .i64 o5)
          rw [E.out, HOL.out]
          exact rstep_end (x := (⟨(kd : Int), [], ws.drop (1 + 6), ⟨o0, o1, o2, o3, o4, o5⟩⟩, 0)) rfl rfl hbk hN hS hbl
    · have heb : (er != 0) = true := by simpa using her
      have e : R = (z52, er) := by rw [HX.out, HBAD.out, if_neg (by decide)]; exact if_pos her
      have E := Lib.hid e
      obtain ⟨d0, f0, d1, f1, d2, f2, d3, f3, d4, f4, d5, f5, d6, f6, d7, f7, d8, f8⟩ := HW5.out.z.cells
      clear e her
      go_wp2_with fail
      obtain ⟨hbk, hbl⟩ := HW5.out.z.put (.int .i64 0) (.slice none 0 0) (.slice none 0 0) (.int .i64 0) (.int .i64 0) (.int .i64 0) (.int .i64 0) (.int .i64 0) (.int .i64 0)
      rw [E.out]
      exact rstep_end (x := (z52, er)) rfl rfl hbk (Kd.R_nil _ _ _ _ _) (Kd.R_nil _ _ _ _ _) hbl
  · have hbad : badL (ws.length - 1) 6 0 0 = true := by
      simp only [badL, Bool.or_eq_true, Bool.and_eq_true, decide_eq_true_eq]
      by_cases h : ws.length - 1 < 6
      · exact .inl (by omega)
      · exact .inr ⟨by omega, trivial⟩
    have e : R = (z52, 300) := by rw [HX.out, hbad]; exact if_pos rfl
    have E := Lib.hid e
    have two : decide ((ws.length : Int) - 1 < 6) = true ∨ (decide ((ws.length : Int) - 1 < 6) = false ∧ decide ((ws.length : Int) - 1 > 6) = true) := by
      by_cases h : ws.length < 7
      · exact .inl (decide_eq_true (by omega))
      · exact .inr ⟨decide_eq_false (by omega), decide_eq_true (by omega)⟩
    clear e hbad hlen
    rcases two with b1 | ⟨b1, b2⟩
    all_goals
      obtain ⟨d0, f0, d1, f1, d2, f2, d3, f3, d4, f4, d5, f5, d6, f6, d7, f7, d8, f8⟩ := HW3.out.z.cells
      go_wp2_with fail
      obtain ⟨hbk, hbl⟩ := HW3.out.z.put (.int .i64 0) (.slice none 0 0) (.slice none 0 0) (.int .i64 0) (.int .i64 0) (.int .i64 0) (.int .i64 0) (.int .i64 0) (.int .i64 0)
      rw [E.out]
      exact rstep_end (x := (z52, 300)) rfl rfl hbk (Kd.R_nil _ _ _ _ _) (Kd.R_nil _ _ _ _ _) hbl

end Go.Proofs.Ytnpmkaklkonofaa.Txt
