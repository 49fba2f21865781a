/- Plain: what annalslaw30.clean leaves of a step. -/
import Derived.Test.YtnpmkaklkonofaaQx9
import Derived.Test.YtnpmkaklkonofaaGStep
set_option linter.unusedVariables false
set_option linter.unusedSimpArgs false
namespace Go.Proofs.Ytnpmkaklkonofaa.Txt
open Go.RowKit Go.Proofs.YtnpmkaklkonofaaW.PrintWords Go.Proofs.YtnpmkaklkonofaaW.PrintLast Go.Proofs.Ytnpmkaklkonofaa.Hand Go.Proofs.Ytnpmkaklkonofaa.Q Go.Proofs.YtnpmkaklkonofaaW.PrintMore

def fewP (l : List Int) (n : Nat) : List Int := (List.range n).map fun i => l.getD i 0
def someP (l : List ByteArray) (n : Nat) : List ByteArray := (List.range n).map fun i => l.getD i ByteArray.empty
theorem fewP_succ (l : List Int) (n : Nat) : fewP l (n + 1) = fewP l n ++ [l.getD n 0] := by simp [fewP, List.range_succ]
theorem someP_succ (l : List ByteArray) (n : Nat) : someP l (n + 1) = someP l n ++ [l.getD n ByteArray.empty] := by simp [someP, List.range_succ]
theorem fewP_length (l : List Int) (n : Nat) : (fewP l n).length = n := by simp [fewP]
theorem someP_length (l : List ByteArray) (n : Nat) : (someP l n).length = n := by simp [someP]
theorem few_loop (l : List Int) (n : Nat) (hn : n ≤ 1000) : ∀ (d k i : Nat), d + i = n → d < k → annalslaw30_few.l0 k l (n : Int) (fewP l i) (i : Int) = some (fewP l n) := by
  intro d
  induction d with
  | zero =>
    intro k i hd hk
    obtain ⟨k, rfl⟩ : ∃ m, k = m + 1 := ⟨k - 1, by omega⟩
    obtain rfl : i = n := by omega
    rw [annalslaw30_few.l0, if_neg (by omega)]
  | succ d ih =>
    intro k i hd hk
    obtain ⟨k, rfl⟩ : ∃ m, k = m + 1 := ⟨k - 1, by omega⟩
    have hw : Hid (wrap64 ((i : Int) + 1) = ((i + 1 : Nat) : Int)) := by
      show _ = _
      rw [show wrap64 ((i : Int) + 1) = (i : Int) + 1 from IntWalk.wrap64_in _ ⟨by omega, by omega⟩]; omega
    have hl := fewP_length l i
    have hg : rd l (i : Int) = l.getD i 0 := rfl
    have := ih k (i + 1) (by omega) (by omega)
    rw [fewP_succ] at this
    rw [annalslaw30_few.l0, if_pos (by omega)]
    by_cases hc : i < l.length
    · rw [if_pos (by omega), if_pos (by omega), if_pos (by omega), hw.out, hg]
      exact this
    · rw [if_neg (by omega), if_pos (by omega), hw.out]
      have e0 : l.getD i 0 = 0 := by rw [List.getD_eq_getElem?_getD, List.getElem?_eq_none (by omega)]; rfl
      rw [e0] at this
      exact this
theorem few_f (l : List Int) (n : Nat) (hn : n ≤ 1000) : annalslaw30_few.f (n + 1) l (n : Int) = some (fewP l n) := few_loop l n hn n (n + 1) 0 (by omega) (by omega)
theorem some_loop (l : List ByteArray) (n : Nat) (hn : n ≤ 1000) : ∀ (d k i : Nat), d + i = n → d < k → annalslaw30_some.l0 k l (n : Int) (someP l i) (i : Int) = some (someP l n) := by
  intro d
  induction d with
  | zero =>
    intro k i hd hk
    obtain ⟨k, rfl⟩ : ∃ m, k = m + 1 := ⟨k - 1, by omega⟩
    obtain rfl : i = n := by omega
    rw [annalslaw30_some.l0, if_neg (by omega)]
  | succ d ih =>
    intro k i hd hk
    obtain ⟨k, rfl⟩ : ∃ m, k = m + 1 := ⟨k - 1, by omega⟩
    have hw : Hid (wrap64 ((i : Int) + 1) = ((i + 1 : Nat) : Int)) := by
      show _ = _
      rw [show wrap64 ((i : Int) + 1) = (i : Int) + 1 from IntWalk.wrap64_in _ ⟨by omega, by omega⟩]; omega
    have hl := someP_length l i
    have hg : rdOf ByteArray.empty l (i : Int) = l.getD i ByteArray.empty := rfl
    have := ih k (i + 1) (by omega) (by omega)
    rw [someP_succ] at this
    rw [annalslaw30_some.l0, if_pos (by omega)]
    by_cases hc : i < l.length
    · rw [if_pos (by omega), if_pos (by omega), if_pos (by omega), hw.out, hg]
      exact this
    · rw [if_neg (by omega), if_pos (by omega), hw.out]
      have e0 : l.getD i ByteArray.empty = (⟨#[]⟩ : ByteArray) := by rw [List.getD_eq_getElem?_getD, List.getElem?_eq_none (by omega)]; rfl
      rw [e0] at this
      exact this
theorem some_f (l : List ByteArray) (n : Nat) (hn : n ≤ 1000) : annalslaw30_some.f (n + 1) l (n : Int) = some (someP l n) := some_loop l n hn n (n + 1) 0 (by omega) (by omega)

def cleanK (k : Int) : Int := if k < 1 ∨ 34 < k then 4 else k
/-- What is left of a step of kind k. -/
def cleanAt (k : Int) (s : S52) : S52 :=
  if k = 1 ∨ k = 12 then ⟨k, [], [], s.f3⟩
  else if k = 3 ∨ k = 11 then ⟨k, [], s.f2, z50⟩
  else if k = 5 ∨ k = 7 ∨ k = 13 ∨ k = 17 ∨ k = 24 ∨ k = 32 ∨ k = 33 then ⟨k, fewP s.f1 1, [], z50⟩
  else if k = 6 ∨ k = 22 then ⟨k, fewP s.f1 2, [], z50⟩
  else if k = 8 then ⟨k, if s.f1.length < 4 then fewP s.f1 4 else s.f1, [], z50⟩
  else if k = 9 ∨ k = 18 ∨ k = 23 then ⟨k, [], someP s.f2 1, z50⟩
  else if k = 34 then ⟨k, fewP s.f1 1, someP s.f2 1, z50⟩
  else if k = 21 ∨ k = 30 then ⟨k, fewP s.f1 1, someP s.f2 2, z50⟩
  else ⟨k, [], [], z50⟩
def cleanP (s : S52) : S52 := cleanAt (cleanK s.f0) s
end Go.Proofs.Ytnpmkaklkonofaa.Txt


/- annalslaw30.clean: what it leaves of a step. -/
namespace Go.Proofs.Ytnpmkaklkonofaa.Txt
open Go.RowKit Go.Proofs.YtnpmkaklkonofaaW.PrintWords Go.Proofs.YtnpmkaklkonofaaW.PrintLast Go.Proofs.Ytnpmkaklkonofaa.Hand Go.Proofs.Ytnpmkaklkonofaa.Q Go.Proofs.YtnpmkaklkonofaaW.PrintMore

/-- clean's answer: the step, and where what it leads to lies. -/
def CleanAns (w : World) (ok : Nat → Prop) (s : S52) (e : Ending) (w' : World) : Prop :=
  ∃ (B1 B2 : Option Addr) (d1 d2 : Nat), e = .returned (.agg #[.int .i64 s.f0, .slice B1 s.f1.length d1, .slice B2 s.f2.length d2, .int .i64 s.f3.f0, .int .i64 s.f3.f1, .int .i64 s.f3.f2, .int .i64 s.f3.f3, .int .i64 s.f3.f4, .int .i64 s.f3.f5]) ∧
    s.f1.length ≤ d1 ∧ Kd.F (Kd.int .i64) w' (fun k => ok k ∨ w.heap.size ≤ k) B1 s.f1.length s.f1 ∧ s.f2.length ≤ d2 ∧ Kd.F Kd.string w' (fun k => ok k ∨ w.heap.size ≤ k) B2 s.f2.length s.f2 ∧ Below w.heap.size w w'

theorem boxes {w w1 : World} {a b c : Obj} (h : Below (((w.alloc a).alloc b).alloc c).heap.size (((w.alloc a).alloc b).alloc c) w1) : w1.heap[w.heap.size]? = some a ∧ w1.heap[w.heap.size + 1]? = some b ∧ w1.heap[w.heap.size + 1 + 1]? = some c := by
  have e1 : (w.alloc a).heap.size = w.heap.size + 1 := by simp
  have e2 : ((w.alloc a).alloc b).heap.size = w.heap.size + 1 + 1 := by simp
  have e3 : (((w.alloc a).alloc b).alloc c).heap.size = w.heap.size + 1 + 1 + 1 := by simp
  have n1 := heap_alloc_new w a
  have n2 := heap_alloc_new (w.alloc a) b
  have n3 := heap_alloc_new ((w.alloc a).alloc b) c
  rw [e1] at n2
  rw [e2] at n3
  have b1 : Below (w.alloc a).heap.size (w.alloc a) (((w.alloc a).alloc b).alloc c) := below_alloc (below_alloc (Below.refl _ _) _) _
  have b2 : Below ((w.alloc a).alloc b).heap.size ((w.alloc a).alloc b) (((w.alloc a).alloc b).alloc c) := below_alloc (Below.refl _ _) _
  refine ⟨?_, ?_, ?_⟩
  · rw [h.block _ (by omega), b1.block _ (by omega), n1]
  · rw [h.block _ (by omega), b2.block _ (by omega), n2]
  · rw [h.block _ (by omega), n3]
theorem nine {wr : World} {g t : Nat} {a0 a1 a2 a3 a4 a5 a6 a7 a8 : Value} (h : wr.heap[g]? = some (.cells #[a0, a1, a2, a3, a4, a5, a6, a7, a8] t (0, 0))) :
    wr.cell? ⟨g, 0, none⟩ = some a0 ∧ wr.cell? ⟨g, 1, none⟩ = some a1 ∧ wr.cell? ⟨g, 2, none⟩ = some a2 ∧ wr.cell? ⟨g, 3, none⟩ = some a3 ∧ wr.cell? ⟨g, 4, none⟩ = some a4 ∧ wr.cell? ⟨g, 5, none⟩ = some a5 ∧ wr.cell? ⟨g, 6, none⟩ = some a6 ∧ wr.cell? ⟨g, 7, none⟩ = some a7 ∧ wr.cell? ⟨g, 8, none⟩ = some a8 ∧ (∀ i, wr.frozen? ⟨g, i, none⟩ = false) :=
  ⟨blk_cell h 0, blk_cell h 1, blk_cell h 2, blk_cell h 3, blk_cell h 4, blk_cell h 5, blk_cell h 6, blk_cell h 7, blk_cell h 8, fun i => blk_frozen h i⟩

theorem set9 {w : World} {g t : Nat} {z0 z1 z2 z3 z4 z5 z6 z7 z8 : Value} (h : w.heap[g]? = some (.cells #[z0, z1, z2, z3, z4, z5, z6, z7, z8] t (0, 0))) (a0 a1 a2 a3 a4 a5 a6 a7 a8 : Value) :
    (((((((((w.setCell ⟨g, 0, none⟩ a0).setCell ⟨g, 1, none⟩ a1).setCell ⟨g, 2, none⟩ a2).setCell ⟨g, 3, none⟩ a3).setCell ⟨g, 4, none⟩ a4).setCell ⟨g, 5, none⟩ a5).setCell ⟨g, 6, none⟩ a6).setCell ⟨g, 7, none⟩ a7).setCell ⟨g, 8, none⟩ a8).heap[g]? = some (.cells #[a0, a1, a2, a3, a4, a5, a6, a7, a8] t (0, 0)) := by
  have h0 := blk_set h 0 a0
  have h1 := blk_set h0 1 a1
  have h2 := blk_set h1 2 a2
  have h3 := blk_set h2 3 a3
  have h4 := blk_set h3 4 a4
  have h5 := blk_set h4 5 a5
  have h6 := blk_set h5 6 a6
  have h7 := blk_set h6 7 a7
  have h8 := blk_set h7 8 a8
  have e : (((((((((#[z0, z1, z2, z3, z4, z5, z6, z7, z8] : Array Value).setIfInBounds 0 a0).setIfInBounds 1 a1).setIfInBounds 2 a2).setIfInBounds 3 a3).setIfInBounds 4 a4).setIfInBounds 5 a5).setIfInBounds 6 a6).setIfInBounds 7 a7).setIfInBounds 8 a8 = #[a0, a1, a2, a3, a4, a5, a6, a7, a8] := by simp
  rw [e] at h8
  exact h8
/-- Where what a cleaned step leads to lies: in what was ahead of the call, or behind the call's own three boxes. -/
def CF (w : World) (ok : Nat → Prop) (k : Nat) : Prop := (ok k ∧ k < w.heap.size) ∨ w.heap.size + 1 + 1 < k
theorem CF_ok {w : World} {ok : Nat → Prop} {k : Nat} (h : CF w ok k) : ok k ∨ w.heap.size ≤ k := by
  rcases h with h | h
  · exact .inl h.1
  · exact .inr (by omega)
theorem CF_ne {w : World} {ok : Nat → Prop} {k : Nat} (h : CF w ok k) (i : Nat) (hi : w.heap.size ≤ i) (hi2 : i ≤ w.heap.size + 1 + 1) : k ≠ i := by
  rcases h with h | h
  · have := h.2; omega
  · omega
theorem CF_in {α : Type} {d : Kd α} {w X : World} {ok : Nat → Prop} {A : Option Addr} {l : List α} (h : Kd.F d w ok A l.length l) (hb : Below w.heap.size w X) : Kd.F d X (CF w ok) A l.length l :=
  Kd.F_mono (Kd.F_below (Kd.F_bound h) hb) (fun _ hk => .inl hk)
theorem CF_new {α : Type} {d : Kd α} {e : Nat} {w w0 X : World} {ok ok' : Nat → Prop} {A : Option Addr} {n c : Nat} {l : List α} (h : d.R e X w0.heap.size ok' (.slice A n c) l) (h0 : w.heap.size + 1 + 1 < w0.heap.size) : Kd.F d X (CF w ok) A n l :=
  Kd.F_mono (Kd.R_F (Kd.R_bound h)) (fun k hk => .inr (by have := hk.2.1; omega))
theorem below3 {w : World} {a b c : Obj} {X : World} (h : Below (((w.alloc a).alloc b).alloc c).heap.size (((w.alloc a).alloc b).alloc c) X) : Below w.heap.size w X := by
  have h0 : Below w.heap.size w (((w.alloc a).alloc b).alloc c) := by
    have b1 : Below w.heap.size w (w.alloc a) := below_alloc (Below.refl _ _) _
    have b2 := b1.alloc (by simp) b
    exact b2.alloc (by simp; omega) c
  exact h0.trans (h.mono (by simp; omega))
theorem clean_fin {w X : World} {ok : Nat → Prop} {s : S52} {B1 B2 : Option Addr} {d1 d2 : Nat} (hb : Below w.heap.size w X) (l1 : s.f1.length ≤ d1) (f1 : Kd.F (Kd.int .i64) X (CF w ok) B1 s.f1.length s.f1) (l2 : s.f2.length ≤ d2) (f2 : Kd.F Kd.string X (CF w ok) B2 s.f2.length s.f2) (a0 a1 a2 a3 a4 a5 a6 a7 a8 : Value) :
    CleanAns w ok s (.returned (.agg #[.int .i64 s.f0, .slice B1 s.f1.length d1, .slice B2 s.f2.length d2, .int .i64 s.f3.f0, .int .i64 s.f3.f1, .int .i64 s.f3.f2, .int .i64 s.f3.f3, .int .i64 s.f3.f4, .int .i64 s.f3.f5]))
      (((((((((X.setCell ⟨w.heap.size + 1, 0, none⟩ a0).setCell ⟨w.heap.size + 1, 1, none⟩ a1).setCell ⟨w.heap.size + 1, 2, none⟩ a2).setCell ⟨w.heap.size + 1, 3, none⟩ a3).setCell ⟨w.heap.size + 1, 4, none⟩ a4).setCell ⟨w.heap.size + 1, 5, none⟩ a5).setCell ⟨w.heap.size + 1, 6, none⟩ a6).setCell ⟨w.heap.size + 1, 7, none⟩ a7).setCell ⟨w.heap.size + 1, 8, none⟩ a8) := by
  have hg : w.heap.size ≤ w.heap.size + 1 := by omega
  have ne : ∀ k, CF w ok k → k ≠ w.heap.size + 1 := fun k hk => CF_ne hk _ (by omega) (by omega)
  refine ⟨B1, B2, d1, d2, rfl, l1, Kd.F_mono ?_ (fun _ hk => CF_ok hk), l2, Kd.F_mono ?_ (fun _ hk => CF_ok hk), ?_⟩
  · exact Kd.F_far (Kd.F_far (Kd.F_far (Kd.F_far (Kd.F_far (Kd.F_far (Kd.F_far (Kd.F_far (Kd.F_far f1 ne a0) ne a1) ne a2) ne a3) ne a4) ne a5) ne a6) ne a7) ne a8
  · exact Kd.F_far (Kd.F_far (Kd.F_far (Kd.F_far (Kd.F_far (Kd.F_far (Kd.F_far (Kd.F_far (Kd.F_far f2 ne a0) ne a1) ne a2) ne a3) ne a4) ne a5) ne a6) ne a7) ne a8
  · exact below_set (below_set (below_set (below_set (below_set (below_set (below_set (below_set (below_set hb hg) hg) hg) hg) hg) hg) hg) hg) hg
theorem clean_fin0 {w X : World} {ok : Nat → Prop} {s : S52} {B1 B2 : Option Addr} {d1 d2 : Nat} (hb : Below w.heap.size w X) (l1 : s.f1.length ≤ d1) (f1 : Kd.F (Kd.int .i64) X (CF w ok) B1 s.f1.length s.f1) (l2 : s.f2.length ≤ d2) (f2 : Kd.F Kd.string X (CF w ok) B2 s.f2.length s.f2) :
    CleanAns w ok s (.returned (.agg #[.int .i64 s.f0, .slice B1 s.f1.length d1, .slice B2 s.f2.length d2, .int .i64 s.f3.f0, .int .i64 s.f3.f1, .int .i64 s.f3.f2, .int .i64 s.f3.f3, .int .i64 s.f3.f4, .int .i64 s.f3.f5])) X :=
  ⟨B1, B2, d1, d2, rfl, l1, Kd.F_mono f1 (fun _ hk => CF_ok hk), l2, Kd.F_mono f2 (fun _ hk => CF_ok hk), hb⟩
theorem boxes0 (w : World) (a b c : Obj) : (((w.alloc a).alloc b).alloc c).heap[w.heap.size + 1]? = some b := (boxes (Below.refl _ _)).2.1
theorem below0 (w : World) (a b c : Obj) : Below w.heap.size w (((w.alloc a).alloc b).alloc c) := below3 (Below.refl _ _)

set_option maxHeartbeats 1000000 in
set_option maxRecDepth 100000 in
theorem clean_1 (N : List Int) (S : List ByteArray) (o0 o1 o2 o3 o4 o5 : Int) (A1 A2 : Option Addr) (c1 c2 : Nat) (w : World) (ok : Nat → Prop) (h1 : N.length ≤ c1) (F1 : Kd.F (Kd.int .i64) w ok A1 N.length N) (h2 : S.length ≤ c2) (F2 : Kd.F Kd.string w ok A2 S.length S) :
    Calls Try.prog 25 #[.agg #[.int .i64 1, .slice A1 N.length c1, .slice A2 S.length c2, .int .i64 o0, .int .i64 o1, .int .i64 o2, .int .i64 o3, .int .i64 o4, .int .i64 o5]] w (CleanAns w ok ⟨1, [], [], ⟨o0, o1, o2, o3, o4, o5⟩⟩) := by
  have hu1 := Try.underlying52
  have hu2 := Try.underlying50
  have FF1 := Lib.hid F1
  have FF2 := Lib.hid F2
  clear F1 F2
  go_enter Try.func25, Try.ntmps25
  go_wp2_with fail
  refine bodyPost_ret (results_cell_row rfl _ _ (w.heap.size + 1) 52 _ (0, 0) _ rfl (boxes0 w _ _ _) Try.underlying52 rfl (by kernel_rfl)) rfl ?_
  exact clean_fin0 (s := ⟨1, [], [], ⟨o0, o1, o2, o3, o4, o5⟩⟩) (below0 _ _ _ _) (Nat.zero_le _) (Kd.F_nil _ _ _) (Nat.zero_le _) (Kd.F_nil _ _ _)
set_option maxHeartbeats 1000000 in
set_option maxRecDepth 100000 in
theorem clean_12 (N : List Int) (S : List ByteArray) (o0 o1 o2 o3 o4 o5 : Int) (A1 A2 : Option Addr) (c1 c2 : Nat) (w : World) (ok : Nat → Prop) (h1 : N.length ≤ c1) (F1 : Kd.F (Kd.int .i64) w ok A1 N.length N) (h2 : S.length ≤ c2) (F2 : Kd.F Kd.string w ok A2 S.length S) :
    Calls Try.prog 25 #[.agg #[.int .i64 12, .slice A1 N.length c1, .slice A2 S.length c2, .int .i64 o0, .int .i64 o1, .int .i64 o2, .int .i64 o3, .int .i64 o4, .int .i64 o5]] w (CleanAns w ok ⟨12, [], [], ⟨o0, o1, o2, o3, o4, o5⟩⟩) := by
  have hu1 := Try.underlying52
  have hu2 := Try.underlying50
  have FF1 := Lib.hid F1
  have FF2 := Lib.hid F2
  clear F1 F2
  go_enter Try.func25, Try.ntmps25
  go_wp2_with fail
  refine bodyPost_ret (results_cell_row rfl _ _ (w.heap.size + 1) 52 _ (0, 0) _ rfl (boxes0 w _ _ _) Try.underlying52 rfl (by kernel_rfl)) rfl ?_
  exact clean_fin0 (s := ⟨12, [], [], ⟨o0, o1, o2, o3, o4, o5⟩⟩) (below0 _ _ _ _) (Nat.zero_le _) (Kd.F_nil _ _ _) (Nat.zero_le _) (Kd.F_nil _ _ _)
set_option maxHeartbeats 1000000 in
set_option maxRecDepth 100000 in
theorem clean_3 (N : List Int) (S : List ByteArray) (o0 o1 o2 o3 o4 o5 : Int) (A1 A2 : Option Addr) (c1 c2 : Nat) (w : World) (ok : Nat → Prop) (h1 : N.length ≤ c1) (F1 : Kd.F (Kd.int .i64) w ok A1 N.length N) (h2 : S.length ≤ c2) (F2 : Kd.F Kd.string w ok A2 S.length S) :
    Calls Try.prog 25 #[.agg #[.int .i64 3, .slice A1 N.length c1, .slice A2 S.length c2, .int .i64 o0, .int .i64 o1, .int .i64 o2, .int .i64 o3, .int .i64 o4, .int .i64 o5]] w (CleanAns w ok ⟨3, [], S, z50⟩) := by
  have hu1 := Try.underlying52
  have hu2 := Try.underlying50
  have FF1 := Lib.hid F1
  have FF2 := Lib.hid F2
  clear F1 F2
  go_enter Try.func25, Try.ntmps25
  go_wp2_with fail
  refine bodyPost_ret (results_cell_row rfl _ _ (w.heap.size + 1) 52 _ (0, 0) _ rfl (boxes0 w _ _ _) Try.underlying52 rfl (by kernel_rfl)) rfl ?_
  exact clean_fin0 (s := ⟨3, [], S, z50⟩) (below0 _ _ _ _) (Nat.zero_le _) (Kd.F_nil _ _ _) h2 (CF_in FF2.out (below0 _ _ _ _))
set_option maxHeartbeats 1000000 in
set_option maxRecDepth 100000 in
theorem clean_11 (N : List Int) (S : List ByteArray) (o0 o1 o2 o3 o4 o5 : Int) (A1 A2 : Option Addr) (c1 c2 : Nat) (w : World) (ok : Nat → Prop) (h1 : N.length ≤ c1) (F1 : Kd.F (Kd.int .i64) w ok A1 N.length N) (h2 : S.length ≤ c2) (F2 : Kd.F Kd.string w ok A2 S.length S) :
    Calls Try.prog 25 #[.agg #[.int .i64 11, .slice A1 N.length c1, .slice A2 S.length c2, .int .i64 o0, .int .i64 o1, .int .i64 o2, .int .i64 o3, .int .i64 o4, .int .i64 o5]] w (CleanAns w ok ⟨11, [], S, z50⟩) := by
  have hu1 := Try.underlying52
  have hu2 := Try.underlying50
  have FF1 := Lib.hid F1
  have FF2 := Lib.hid F2
  clear F1 F2
  go_enter Try.func25, Try.ntmps25
  go_wp2_with fail
  refine bodyPost_ret (results_cell_row rfl _ _ (w.heap.size + 1) 52 _ (0, 0) _ rfl (boxes0 w _ _ _) Try.underlying52 rfl (by kernel_rfl)) rfl ?_
  exact clean_fin0 (s := ⟨11, [], S, z50⟩) (below0 _ _ _ _) (Nat.zero_le _) (Kd.F_nil _ _ _) h2 (CF_in FF2.out (below0 _ _ _ _))
set_option maxHeartbeats 1000000 in
set_option maxRecDepth 100000 in
theorem clean_5 (N : List Int) (S : List ByteArray) (o0 o1 o2 o3 o4 o5 : Int) (A1 A2 : Option Addr) (c1 c2 : Nat) (w : World) (ok : Nat → Prop) (h1 : N.length ≤ c1) (F1 : Kd.F (Kd.int .i64) w ok A1 N.length N) (h2 : S.length ≤ c2) (F2 : Kd.F Kd.string w ok A2 S.length S) :
    Calls Try.prog 25 #[.agg #[.int .i64 5, .slice A1 N.length c1, .slice A2 S.length c2, .int .i64 o0, .int .i64 o1, .int .i64 o2, .int .i64 o3, .int .i64 o4, .int .i64 o5]] w (CleanAns w ok ⟨5, fewP N 1, [], z50⟩) := by
  have hu1 := Try.underlying52
  have hu2 := Try.underlying50
  have FF1 := Lib.hid F1
  have FF2 := Lib.hid F2
  clear F1 F2
  go_enter Try.func25, Try.ntmps25
  go_wp2_with fail
  refine (annalslaw30_few.calls 2 A1 c1 N 1 (fewP N 1) _ (Kd.F_now (Kd.F_alloc (Kd.F_alloc (Kd.F_alloc FF1.out _) _) _)) h1 (few_f N 1 (by omega))).mono ?_
  rintro e w1 ⟨v1, rfl, hR, hb⟩
  obtain ⟨B, d, hv⟩ := Kd.R_slice hR
  subst hv
  obtain ⟨g0, g1, g2⟩ := boxes hb
  obtain ⟨x0, x1, x2, x3, x4, x5, x6, x7, x8, xf⟩ := nine g2
  obtain ⟨y0, y1, y2, y3, y4, y5, y6, y7, y8, yf⟩ := nine g1
  obtain ⟨z0, z1, z2, z3, z4, z5, z6, z7, z8, zf⟩ := nine g0
  have G1 := Lib.hid g1
  have G2 := Lib.hid g2
  have HR := Lib.hid hR
  have HB := Lib.hid hb
  clear g0 g1 g2 hR hb
  go_wp2_with fail
  refine bodyPost_ret (results_cell_row rfl _ _ (w.heap.size + 1) 52 _ (0, 0) _ rfl (set9 (blk_far G1.out (by simp) _) _ _ _ _ _ _ _ _ _) Try.underlying52 rfl (by kernel_rfl)) rfl ?_
  exact clean_fin (s := ⟨5, fewP N 1, [], z50⟩) (below_set (below3 HB.out) (by omega)) (Kd.R_reads' HR.out).2.1 (Kd.F_far (CF_new HR.out (by simp)) (fun k hk => CF_ne hk (w.heap.size + 1 + 1) (by omega) (by omega)) _) (Nat.zero_le _) (Kd.F_nil _ _ _) _ _ _ _ _ _ _ _ _
set_option maxHeartbeats 1000000 in
set_option maxRecDepth 100000 in
theorem clean_7 (N : List Int) (S : List ByteArray) (o0 o1 o2 o3 o4 o5 : Int) (A1 A2 : Option Addr) (c1 c2 : Nat) (w : World) (ok : Nat → Prop) (h1 : N.length ≤ c1) (F1 : Kd.F (Kd.int .i64) w ok A1 N.length N) (h2 : S.length ≤ c2) (F2 : Kd.F Kd.string w ok A2 S.length S) :
    Calls Try.prog 25 #[.agg #[.int .i64 7, .slice A1 N.length c1, .slice A2 S.length c2, .int .i64 o0, .int .i64 o1, .int .i64 o2, .int .i64 o3, .int .i64 o4, .int .i64 o5]] w (CleanAns w ok ⟨7, fewP N 1, [], z50⟩) := by
  have hu1 := Try.underlying52
  have hu2 := Try.underlying50
  have FF1 := Lib.hid F1
  have FF2 := Lib.hid F2
  clear F1 F2
  go_enter Try.func25, Try.ntmps25
  go_wp2_with fail
  refine (annalslaw30_few.calls 2 A1 c1 N 1 (fewP N 1) _ (Kd.F_now (Kd.F_alloc (Kd.F_alloc (Kd.F_alloc FF1.out _) _) _)) h1 (few_f N 1 (by omega))).mono ?_
  rintro e w1 ⟨v1, rfl, hR, hb⟩
  obtain ⟨B, d, hv⟩ := Kd.R_slice hR
  subst hv
  obtain ⟨g0, g1, g2⟩ := boxes hb
  obtain ⟨x0, x1, x2, x3, x4, x5, x6, x7, x8, xf⟩ := nine g2
  obtain ⟨y0, y1, y2, y3, y4, y5, y6, y7, y8, yf⟩ := nine g1
  obtain ⟨z0, z1, z2, z3, z4, z5, z6, z7, z8, zf⟩ := nine g0
  have G1 := Lib.hid g1
  have G2 := Lib.hid g2
  have HR := Lib.hid hR
  have HB := Lib.hid hb
  clear g0 g1 g2 hR hb
  go_wp2_with fail
  refine bodyPost_ret (results_cell_row rfl _ _ (w.heap.size + 1) 52 _ (0, 0) _ rfl (set9 (blk_far G1.out (by simp) _) _ _ _ _ _ _ _ _ _) Try.underlying52 rfl (by kernel_rfl)) rfl ?_
  exact clean_fin (s := ⟨7, fewP N 1, [], z50⟩) (below_set (below3 HB.out) (by omega)) (Kd.R_reads' HR.out).2.1 (Kd.F_far (CF_new HR.out (by simp)) (fun k hk => CF_ne hk (w.heap.size + 1 + 1) (by omega) (by omega)) _) (Nat.zero_le _) (Kd.F_nil _ _ _) _ _ _ _ _ _ _ _ _
set_option maxHeartbeats 1000000 in
set_option maxRecDepth 100000 in
theorem clean_13 (N : List Int) (S : List ByteArray) (o0 o1 o2 o3 o4 o5 : Int) (A1 A2 : Option Addr) (c1 c2 : Nat) (w : World) (ok : Nat → Prop) (h1 : N.length ≤ c1) (F1 : Kd.F (Kd.int .i64) w ok A1 N.length N) (h2 : S.length ≤ c2) (F2 : Kd.F Kd.string w ok A2 S.length S) :
    Calls Try.prog 25 #[.agg #[.int .i64 13, .slice A1 N.length c1, .slice A2 S.length c2, .int .i64 o0, .int .i64 o1, .int .i64 o2, .int .i64 o3, .int .i64 o4, .int .i64 o5]] w (CleanAns w ok ⟨13, fewP N 1, [], z50⟩) := by
  have hu1 := Try.underlying52
  have hu2 := Try.underlying50
  have FF1 := Lib.hid F1
  have FF2 := Lib.hid F2
  clear F1 F2
  go_enter Try.func25, Try.ntmps25
  go_wp2_with fail
  refine (annalslaw30_few.calls 2 A1 c1 N 1 (fewP N 1) _ (Kd.F_now (Kd.F_alloc (Kd.F_alloc (Kd.F_alloc FF1.out _) _) _)) h1 (few_f N 1 (by omega))).mono ?_
  rintro e w1 ⟨v1, rfl, hR, hb⟩
  obtain ⟨B, d, hv⟩ := Kd.R_slice hR
  subst hv
  obtain ⟨g0, g1, g2⟩ := boxes hb
  obtain ⟨x0, x1, x2, x3, x4, x5, x6, x7, x8, xf⟩ := nine g2
  obtain ⟨y0, y1, y2, y3, y4, y5, y6, y7, y8, yf⟩ := nine g1
  obtain ⟨z0, z1, z2, z3, z4, z5, z6, z7, z8, zf⟩ := nine g0
  have G1 := Lib.hid g1
  have G2 := Lib.hid g2
  have HR := Lib.hid hR
  have HB := Lib.hid hb
  clear g0 g1 g2 hR hb
  go_wp2_with fail
  refine bodyPost_ret (results_cell_row rfl _ _ (w.heap.size + 1) 52 _ (0, 0) _ rfl (set9 (blk_far G1.out (by simp) _) _ _ _ _ _ _ _ _ _) Try.underlying52 rfl (by kernel_rfl)) rfl ?_
  exact clean_fin (s := ⟨13, fewP N 1, [], z50⟩) (below_set (below3 HB.out) (by omega)) (Kd.R_reads' HR.out).2.1 (Kd.F_far (CF_new HR.out (by simp)) (fun k hk => CF_ne hk (w.heap.size + 1 + 1) (by omega) (by omega)) _) (Nat.zero_le _) (Kd.F_nil _ _ _) _ _ _ _ _ _ _ _ _
set_option maxHeartbeats 1000000 in
set_option maxRecDepth 100000 in
theorem clean_17 (N : List Int) (S : List ByteArray) (o0 o1 o2 o3 o4 o5 : Int) (A1 A2 : Option Addr) (c1 c2 : Nat) (w : World) (ok : Nat → Prop) (h1 : N.length ≤ c1) (F1 : Kd.F (Kd.int .i64) w ok A1 N.length N) (h2 : S.length ≤ c2) (F2 : Kd.F Kd.string w ok A2 S.length S) :
    Calls Try.prog 25 #[.agg #[.int .i64 17, .slice A1 N.length c1, .slice A2 S.length c2, .int .i64 o0, .int .i64 o1, .int .i64 o2, .int .i64 o3, .int .i64 o4, .int .i64 o5]] w (CleanAns w ok ⟨17, fewP N 1, [], z50⟩) := by
  have hu1 := Try.underlying52
  have hu2 := Try.underlying50
  have FF1 := Lib.hid F1
  have FF2 := Lib.hid F2
  clear F1 F2
  go_enter Try.func25, Try.ntmps25
  go_wp2_with fail
  refine (annalslaw30_few.calls 2 A1 c1 N 1 (fewP N 1) _ (Kd.F_now (Kd.F_alloc (Kd.F_alloc (Kd.F_alloc FF1.out _) _) _)) h1 (few_f N 1 (by omega))).mono ?_
  rintro e w1 ⟨v1, rfl, hR, hb⟩
  obtain ⟨B, d, hv⟩ := Kd.R_slice hR
  subst hv
  obtain ⟨g0, g1, g2⟩ := boxes hb
  obtain ⟨x0, x1, x2, x3, x4, x5, x6, x7, x8, xf⟩ := nine g2
  obtain ⟨y0, y1, y2, y3, y4, y5, y6, y7, y8, yf⟩ := nine g1
  obtain ⟨z0, z1, z2, z3, z4, z5, z6, z7, z8, zf⟩ := nine g0
  have G1 := Lib.hid g1
  have G2 := Lib.hid g2
  have HR := Lib.hid hR
  have HB := Lib.hid hb
  clear g0 g1 g2 hR hb
  go_wp2_with fail
  refine bodyPost_ret (results_cell_row rfl _ _ (w.heap.size + 1) 52 _ (0, 0) _ rfl (set9 (blk_far G1.out (by simp) _) _ _ _ _ _ _ _ _ _) Try.underlying52 rfl (by kernel_rfl)) rfl ?_
  exact clean_fin (s := ⟨17, fewP N 1, [], z50⟩) (below_set (below3 HB.out) (by omega)) (Kd.R_reads' HR.out).2.1 (Kd.F_far (CF_new HR.out (by simp)) (fun k hk => CF_ne hk (w.heap.size + 1 + 1) (by omega) (by omega)) _) (Nat.zero_le _) (Kd.F_nil _ _ _) _ _ _ _ _ _ _ _ _
set_option maxHeartbeats 1000000 in
set_option maxRecDepth 100000 in
theorem clean_24 (N : List Int) (S : List ByteArray) (o0 o1 o2 o3 o4 o5 : Int) (A1 A2 : Option Addr) (c1 c2 : Nat) (w : World) (ok : Nat → Prop) (h1 : N.length ≤ c1) (F1 : Kd.F (Kd.int .i64) w ok A1 N.length N) (h2 : S.length ≤ c2) (F2 : Kd.F Kd.string w ok A2 S.length S) :
    Calls Try.prog 25 #[.agg #[.int .i64 24, .slice A1 N.length c1, .slice A2 S.length c2, .int .i64 o0, .int .i64 o1, .int .i64 o2, .int .i64 o3, .int .i64 o4, .int .i64 o5]] w (CleanAns w ok ⟨24, fewP N 1, [], z50⟩) := by
  have hu1 := Try.underlying52
  have hu2 := Try.underlying50
  have FF1 := Lib.hid F1
  have FF2 := Lib.hid F2
  clear F1 F2
  go_enter Try.func25, Try.ntmps25
  go_wp2_with fail
  refine (annalslaw30_few.calls 2 A1 c1 N 1 (fewP N 1) _ (Kd.F_now (Kd.F_alloc (Kd.F_alloc (Kd.F_alloc FF1.out _) _) _)) h1 (few_f N 1 (by omega))).mono ?_
  rintro e w1 ⟨v1, rfl, hR, hb⟩
  obtain ⟨B, d, hv⟩ := Kd.R_slice hR
  subst hv
  obtain ⟨g0, g1, g2⟩ := boxes hb
  obtain ⟨x0, x1, x2, x3, x4, x5, x6, x7, x8, xf⟩ := nine g2
  obtain ⟨y0, y1, y2, y3, y4, y5, y6, y7, y8, yf⟩ := nine g1
  obtain ⟨z0, z1, z2, z3, z4, z5, z6, z7, z8, zf⟩ := nine g0
  have G1 := Lib.hid g1
  have G2 := Lib.hid g2
  have HR := Lib.hid hR
  have HB := Lib.hid hb
  clear g0 g1 g2 hR hb
  go_wp2_with fail
  refine bodyPost_ret (results_cell_row rfl _ _ (w.heap.size + 1) 52 _ (0, 0) _ rfl (set9 (blk_far G1.out (by simp) _) _ _ _ _ _ _ _ _ _) Try.underlying52 rfl (by kernel_rfl)) rfl ?_
  exact clean_fin (s := ⟨24, fewP N 1, [], z50⟩) (below_set (below3 HB.out) (by omega)) (Kd.R_reads' HR.out).2.1 (Kd.F_far (CF_new HR.out (by simp)) (fun k hk => CF_ne hk (w.heap.size + 1 + 1) (by omega) (by omega)) _) (Nat.zero_le _) (Kd.F_nil _ _ _) _ _ _ _ _ _ _ _ _
set_option maxHeartbeats 1000000 in
set_option maxRecDepth 100000 in
theorem clean_32 (N : List Int) (S : List ByteArray) (o0 o1 o2 o3 o4 o5 : Int) (A1 A2 : Option Addr) (c1 c2 : Nat) (w : World) (ok : Nat → Prop) (h1 : N.length ≤ c1) (F1 : Kd.F (Kd.int .i64) w ok A1 N.length N) (h2 : S.length ≤ c2) (F2 : Kd.F Kd.string w ok A2 S.length S) :
    Calls Try.prog 25 #[.agg #[.int .i64 32, .slice A1 N.length c1, .slice A2 S.length c2, .int .i64 o0, .int .i64 o1, .int .i64 o2, .int .i64 o3, .int .i64 o4, .int .i64 o5]] w (CleanAns w ok ⟨32, fewP N 1, [], z50⟩) := by
  have hu1 := Try.underlying52
  have hu2 := Try.underlying50
  have FF1 := Lib.hid F1
  have FF2 := Lib.hid F2
  clear F1 F2
  go_enter Try.func25, Try.ntmps25
  go_wp2_with fail
  refine (annalslaw30_few.calls 2 A1 c1 N 1 (fewP N 1) _ (Kd.F_now (Kd.F_alloc (Kd.F_alloc (Kd.F_alloc FF1.out _) _) _)) h1 (few_f N 1 (by omega))).mono ?_
  rintro e w1 ⟨v1, rfl, hR, hb⟩
  obtain ⟨B, d, hv⟩ := Kd.R_slice hR
  subst hv
  obtain ⟨g0, g1, g2⟩ := boxes hb
  obtain ⟨x0, x1, x2, x3, x4, x5, x6, x7, x8, xf⟩ := nine g2
  obtain ⟨y0, y1, y2, y3, y4, y5, y6, y7, y8, yf⟩ := nine g1
  obtain ⟨z0, z1, z2, z3, z4, z5, z6, z7, z8, zf⟩ := nine g0
  have G1 := Lib.hid g1
  have G2 := Lib.hid g2
  have HR := Lib.hid hR
  have HB := Lib.hid hb
  clear g0 g1 g2 hR hb
  go_wp2_with fail
  refine bodyPost_ret (results_cell_row rfl _ _ (w.heap.size + 1) 52 _ (0, 0) _ rfl (set9 (blk_far G1.out (by simp) _) _ _ _ _ _ _ _ _ _) Try.underlying52 rfl (by kernel_rfl)) rfl ?_
  exact clean_fin (s := ⟨32, fewP N 1, [], z50⟩) (below_set (below3 HB.out) (by omega)) (Kd.R_reads' HR.out).2.1 (Kd.F_far (CF_new HR.out (by simp)) (fun k hk => CF_ne hk (w.heap.size + 1 + 1) (by omega) (by omega)) _) (Nat.zero_le _) (Kd.F_nil _ _ _) _ _ _ _ _ _ _ _ _
set_option maxHeartbeats 1000000 in
set_option maxRecDepth 100000 in
theorem clean_33 (N : List Int) (S : List ByteArray) (o0 o1 o2 o3 o4 o5 : Int) (A1 A2 : Option Addr) (c1 c2 : Nat) (w : World) (ok : Nat → Prop) (h1 : N.length ≤ c1) (F1 : Kd.F (Kd.int .i64) w ok A1 N.length N) (h2 : S.length ≤ c2) (F2 : Kd.F Kd.string w ok A2 S.length S) :
    Calls Try.prog 25 #[.agg #[.int .i64 33, .slice A1 N.length c1, .slice A2 S.length c2, .int .i64 o0, .int .i64 o1, .int .i64 o2, .int .i64 o3, .int .i64 o4, .int .i64 o5]] w (CleanAns w ok ⟨33, fewP N 1, [], z50⟩) := by
  have hu1 := Try.underlying52
  have hu2 := Try.underlying50
  have FF1 := Lib.hid F1
  have FF2 := Lib.hid F2
  clear F1 F2
  go_enter Try.func25, Try.ntmps25
  go_wp2_with fail
  refine (annalslaw30_few.calls 2 A1 c1 N 1 (fewP N 1) _ (Kd.F_now (Kd.F_alloc (Kd.F_alloc (Kd.F_alloc FF1.out _) _) _)) h1 (few_f N 1 (by omega))).mono ?_
  rintro e w1 ⟨v1, rfl, hR, hb⟩
  obtain ⟨B, d, hv⟩ := Kd.R_slice hR
  subst hv
  obtain ⟨g0, g1, g2⟩ := boxes hb
  obtain ⟨x0, x1, x2, x3, x4, x5, x6, x7, x8, xf⟩ := nine g2
  obtain ⟨y0, y1, y2, y3, y4, y5, y6, y7, y8, yf⟩ := nine g1
  obtain ⟨z0, z1, z2, z3, z4, z5, z6, z7, z8, zf⟩ := nine g0
  have G1 := Lib.hid g1
  have G2 := Lib.hid g2
  have HR := Lib.hid hR
  have HB := Lib.hid hb
  clear g0 g1 g2 hR hb
  go_wp2_with fail
  refine bodyPost_ret (results_cell_row rfl _ _ (w.heap.size + 1) 52 _ (0, 0) _ rfl (set9 (blk_far G1.out (by simp) _) _ _ _ _ _ _ _ _ _) Try.underlying52 rfl (by kernel_rfl)) rfl ?_
  exact clean_fin (s := ⟨33, fewP N 1, [], z50⟩) (below_set (below3 HB.out) (by omega)) (Kd.R_reads' HR.out).2.1 (Kd.F_far (CF_new HR.out (by simp)) (fun k hk => CF_ne hk (w.heap.size + 1 + 1) (by omega) (by omega)) _) (Nat.zero_le _) (Kd.F_nil _ _ _) _ _ _ _ _ _ _ _ _
set_option maxHeartbeats 1000000 in
set_option maxRecDepth 100000 in
theorem clean_6 (N : List Int) (S : List ByteArray) (o0 o1 o2 o3 o4 o5 : Int) (A1 A2 : Option Addr) (c1 c2 : Nat) (w : World) (ok : Nat → Prop) (h1 : N.length ≤ c1) (F1 : Kd.F (Kd.int .i64) w ok A1 N.length N) (h2 : S.length ≤ c2) (F2 : Kd.F Kd.string w ok A2 S.length S) :
    Calls Try.prog 25 #[.agg #[.int .i64 6, .slice A1 N.length c1, .slice A2 S.length c2, .int .i64 o0, .int .i64 o1, .int .i64 o2, .int .i64 o3, .int .i64 o4, .int .i64 o5]] w (CleanAns w ok ⟨6, fewP N 2, [], z50⟩) := by
  have hu1 := Try.underlying52
  have hu2 := Try.underlying50
  have FF1 := Lib.hid F1
  have FF2 := Lib.hid F2
  clear F1 F2
  go_enter Try.func25, Try.ntmps25
  go_wp2_with fail
  refine (annalslaw30_few.calls 3 A1 c1 N 2 (fewP N 2) _ (Kd.F_now (Kd.F_alloc (Kd.F_alloc (Kd.F_alloc FF1.out _) _) _)) h1 (few_f N 2 (by omega))).mono ?_
  rintro e w1 ⟨v1, rfl, hR, hb⟩
  obtain ⟨B, d, hv⟩ := Kd.R_slice hR
  subst hv
  obtain ⟨g0, g1, g2⟩ := boxes hb
  obtain ⟨x0, x1, x2, x3, x4, x5, x6, x7, x8, xf⟩ := nine g2
  obtain ⟨y0, y1, y2, y3, y4, y5, y6, y7, y8, yf⟩ := nine g1
  obtain ⟨z0, z1, z2, z3, z4, z5, z6, z7, z8, zf⟩ := nine g0
  have G1 := Lib.hid g1
  have G2 := Lib.hid g2
  have HR := Lib.hid hR
  have HB := Lib.hid hb
  clear g0 g1 g2 hR hb
  go_wp2_with fail
  refine bodyPost_ret (results_cell_row rfl _ _ (w.heap.size + 1) 52 _ (0, 0) _ rfl (set9 (blk_far G1.out (by simp) _) _ _ _ _ _ _ _ _ _) Try.underlying52 rfl (by kernel_rfl)) rfl ?_
  exact clean_fin (s := ⟨6, fewP N 2, [], z50⟩) (below_set (below3 HB.out) (by omega)) (Kd.R_reads' HR.out).2.1 (Kd.F_far (CF_new HR.out (by simp)) (fun k hk => CF_ne hk (w.heap.size + 1 + 1) (by omega) (by omega)) _) (Nat.zero_le _) (Kd.F_nil _ _ _) _ _ _ _ _ _ _ _ _
set_option maxHeartbeats 1000000 in
set_option maxRecDepth 100000 in
theorem clean_22 (N : List Int) (S : List ByteArray) (o0 o1 o2 o3 o4 o5 : Int) (A1 A2 : Option Addr) (c1 c2 : Nat) (w : World) (ok : Nat → Prop) (h1 : N.length ≤ c1) (F1 : Kd.F (Kd.int .i64) w ok A1 N.length N) (h2 : S.length ≤ c2) (F2 : Kd.F Kd.string w ok A2 S.length S) :
    Calls Try.prog 25 #[.agg #[.int .i64 22, .slice A1 N.length c1, .slice A2 S.length c2, .int .i64 o0, .int .i64 o1, .int .i64 o2, .int .i64 o3, .int .i64 o4, .int .i64 o5]] w (CleanAns w ok ⟨22, fewP N 2, [], z50⟩) := by
  have hu1 := Try.underlying52
  have hu2 := Try.underlying50
  have FF1 := Lib.hid F1
  have FF2 := Lib.hid F2
  clear F1 F2
  go_enter Try.func25, Try.ntmps25
  go_wp2_with fail
  refine (annalslaw30_few.calls 3 A1 c1 N 2 (fewP N 2) _ (Kd.F_now (Kd.F_alloc (Kd.F_alloc (Kd.F_alloc FF1.out _) _) _)) h1 (few_f N 2 (by omega))).mono ?_
  rintro e w1 ⟨v1, rfl, hR, hb⟩
  obtain ⟨B, d, hv⟩ := Kd.R_slice hR
  subst hv
  obtain ⟨g0, g1, g2⟩ := boxes hb
  obtain ⟨x0, x1, x2, x3, x4, x5, x6, x7, x8, xf⟩ := nine g2
  obtain ⟨y0, y1, y2, y3, y4, y5, y6, y7, y8, yf⟩ := nine g1
  obtain ⟨z0, z1, z2, z3, z4, z5, z6, z7, z8, zf⟩ := nine g0
  have G1 := Lib.hid g1
  have G2 := Lib.hid g2
  have HR := Lib.hid hR
  have HB := Lib.hid hb
  clear g0 g1 g2 hR hb
  go_wp2_with fail
  refine bodyPost_ret (results_cell_row rfl _ _ (w.heap.size + 1) 52 _ (0, 0) _ rfl (set9 (blk_far G1.out (by simp) _) _ _ _ _ _ _ _ _ _) Try.underlying52 rfl (by kernel_rfl)) rfl ?_
  exact clean_fin (s := ⟨22, fewP N 2, [], z50⟩) (below_set (below3 HB.out) (by omega)) (Kd.R_reads' HR.out).2.1 (Kd.F_far (CF_new HR.out (by simp)) (fun k hk => CF_ne hk (w.heap.size + 1 + 1) (by omega) (by omega)) _) (Nat.zero_le _) (Kd.F_nil _ _ _) _ _ _ _ _ _ _ _ _
set_option maxHeartbeats 1000000 in
set_option maxRecDepth 100000 in
theorem clean_8 (N : List Int) (S : List ByteArray) (o0 o1 o2 o3 o4 o5 : Int) (A1 A2 : Option Addr) (c1 c2 : Nat) (w : World) (ok : Nat → Prop) (h1 : N.length ≤ c1) (F1 : Kd.F (Kd.int .i64) w ok A1 N.length N) (h2 : S.length ≤ c2) (F2 : Kd.F Kd.string w ok A2 S.length S) :
    Calls Try.prog 25 #[.agg #[.int .i64 8, .slice A1 N.length c1, .slice A2 S.length c2, .int .i64 o0, .int .i64 o1, .int .i64 o2, .int .i64 o3, .int .i64 o4, .int .i64 o5]] w (CleanAns w ok ⟨8, if N.length < 4 then fewP N 4 else N, [], z50⟩) := by
  have hu1 := Try.underlying52
  have hu2 := Try.underlying50
  have FF1 := Lib.hid F1
  have FF2 := Lib.hid F2
  clear F1 F2
  go_enter Try.func25, Try.ntmps25
  go_wp2_with fail
  · refine (annalslaw30_few.calls 5 A1 c1 N 4 (fewP N 4) _ (Kd.F_now (Kd.F_alloc (Kd.F_alloc (Kd.F_alloc FF1.out _) _) _)) h1 (few_f N 4 (by omega))).mono ?_
    rintro e w1 ⟨v1, rfl, hR, hb⟩
    obtain ⟨B, d, hv⟩ := Kd.R_slice hR
    subst hv
    obtain ⟨g0, g1, g2⟩ := boxes hb
    obtain ⟨x0, x1, x2, x3, x4, x5, x6, x7, x8, xf⟩ := nine g2
    obtain ⟨y0, y1, y2, y3, y4, y5, y6, y7, y8, yf⟩ := nine g1
    obtain ⟨z0, z1, z2, z3, z4, z5, z6, z7, z8, zf⟩ := nine g0
    have G1 := Lib.hid g1
    have G2 := Lib.hid g2
    have HR := Lib.hid hR
    have HB := Lib.hid hb
    clear g0 g1 g2 hR hb
    go_wp2_with fail
    refine bodyPost_ret (results_cell_row rfl _ _ (w.heap.size + 1) 52 _ (0, 0) _ rfl (set9 (blk_far G1.out (by simp) _) _ _ _ _ _ _ _ _ _) Try.underlying52 rfl (by kernel_rfl)) rfl ?_
    try rw [if_pos (by omega)]
    exact clean_fin (s := ⟨8, fewP N 4, [], z50⟩) (below_set (below3 HB.out) (by omega)) (Kd.R_reads' HR.out).2.1 (Kd.F_far (CF_new HR.out (by simp)) (fun k hk => CF_ne hk (w.heap.size + 1 + 1) (by omega) (by omega)) _) (Nat.zero_le _) (Kd.F_nil _ _ _) _ _ _ _ _ _ _ _ _
  · refine bodyPost_ret (results_cell_row rfl _ _ (w.heap.size + 1) 52 _ (0, 0) _ rfl (boxes0 w _ _ _) Try.underlying52 rfl (by kernel_rfl)) rfl ?_
    try rw [if_neg (by omega)]
    exact clean_fin0 (s := ⟨8, N, [], z50⟩) (below0 _ _ _ _) h1 (CF_in FF1.out (below0 _ _ _ _)) (Nat.zero_le _) (Kd.F_nil _ _ _)
set_option maxHeartbeats 1000000 in
set_option maxRecDepth 100000 in
theorem clean_9 (N : List Int) (S : List ByteArray) (o0 o1 o2 o3 o4 o5 : Int) (A1 A2 : Option Addr) (c1 c2 : Nat) (w : World) (ok : Nat → Prop) (h1 : N.length ≤ c1) (F1 : Kd.F (Kd.int .i64) w ok A1 N.length N) (h2 : S.length ≤ c2) (F2 : Kd.F Kd.string w ok A2 S.length S) :
    Calls Try.prog 25 #[.agg #[.int .i64 9, .slice A1 N.length c1, .slice A2 S.length c2, .int .i64 o0, .int .i64 o1, .int .i64 o2, .int .i64 o3, .int .i64 o4, .int .i64 o5]] w (CleanAns w ok ⟨9, [], someP S 1, z50⟩) := by
  have hu1 := Try.underlying52
  have hu2 := Try.underlying50
  have FF1 := Lib.hid F1
  have FF2 := Lib.hid F2
  clear F1 F2
  go_enter Try.func25, Try.ntmps25
  go_wp2_with fail
  refine (annalslaw30_some.calls 2 A2 c2 S 1 (someP S 1) _ (Kd.F_now (Kd.F_alloc (Kd.F_alloc (Kd.F_alloc FF2.out _) _) _)) h2 (some_f S 1 (by omega))).mono ?_
  rintro e w1 ⟨v1, rfl, hR, hb⟩
  obtain ⟨B, d, hv⟩ := Kd.R_slice hR
  subst hv
  obtain ⟨g0, g1, g2⟩ := boxes hb
  obtain ⟨x0, x1, x2, x3, x4, x5, x6, x7, x8, xf⟩ := nine g2
  obtain ⟨y0, y1, y2, y3, y4, y5, y6, y7, y8, yf⟩ := nine g1
  obtain ⟨z0, z1, z2, z3, z4, z5, z6, z7, z8, zf⟩ := nine g0
  have G1 := Lib.hid g1
  have G2 := Lib.hid g2
  have HR := Lib.hid hR
  have HB := Lib.hid hb
  clear g0 g1 g2 hR hb
  go_wp2_with fail
  refine bodyPost_ret (results_cell_row rfl _ _ (w.heap.size + 1) 52 _ (0, 0) _ rfl (set9 (blk_far G1.out (by simp) _) _ _ _ _ _ _ _ _ _) Try.underlying52 rfl (by kernel_rfl)) rfl ?_
  exact clean_fin (s := ⟨9, [], someP S 1, z50⟩) (below_set (below3 HB.out) (by omega)) (Nat.zero_le _) (Kd.F_nil _ _ _) (Kd.R_reads' HR.out).2.1 (Kd.F_far (CF_new HR.out (by simp)) (fun k hk => CF_ne hk (w.heap.size + 1 + 1) (by omega) (by omega)) _) _ _ _ _ _ _ _ _ _
set_option maxHeartbeats 1000000 in
set_option maxRecDepth 100000 in
theorem clean_18 (N : List Int) (S : List ByteArray) (o0 o1 o2 o3 o4 o5 : Int) (A1 A2 : Option Addr) (c1 c2 : Nat) (w : World) (ok : Nat → Prop) (h1 : N.length ≤ c1) (F1 : Kd.F (Kd.int .i64) w ok A1 N.length N) (h2 : S.length ≤ c2) (F2 : Kd.F Kd.string w ok A2 S.length S) :
    Calls Try.prog 25 #[.agg #[.int .i64 18, .slice A1 N.length c1, .slice A2 S.length c2, .int .i64 o0, .int .i64 o1, .int .i64 o2, .int .i64 o3, .int .i64 o4, .int .i64 o5]] w (CleanAns w ok ⟨18, [], someP S 1, z50⟩) := by
  have hu1 := Try.underlying52
  have hu2 := Try.underlying50
  have FF1 := Lib.hid F1
  have FF2 := Lib.hid F2
  clear F1 F2
  go_enter Try.func25, Try.ntmps25
  go_wp2_with fail
  refine (annalslaw30_some.calls 2 A2 c2 S 1 (someP S 1) _ (Kd.F_now (Kd.F_alloc (Kd.F_alloc (Kd.F_alloc FF2.out _) _) _)) h2 (some_f S 1 (by omega))).mono ?_
  rintro e w1 ⟨v1, rfl, hR, hb⟩
  obtain ⟨B, d, hv⟩ := Kd.R_slice hR
  subst hv
  obtain ⟨g0, g1, g2⟩ := boxes hb
  obtain ⟨x0, x1, x2, x3, x4, x5, x6, x7, x8, xf⟩ := nine g2
  obtain ⟨y0, y1, y2, y3, y4, y5, y6, y7, y8, yf⟩ := nine g1
  obtain ⟨z0, z1, z2, z3, z4, z5, z6, z7, z8, zf⟩ := nine g0
  have G1 := Lib.hid g1
  have G2 := Lib.hid g2
  have HR := Lib.hid hR
  have HB := Lib.hid hb
  clear g0 g1 g2 hR hb
  go_wp2_with fail
  refine bodyPost_ret (results_cell_row rfl _ _ (w.heap.size + 1) 52 _ (0, 0) _ rfl (set9 (blk_far G1.out (by simp) _) _ _ _ _ _ _ _ _ _) Try.underlying52 rfl (by kernel_rfl)) rfl ?_
  exact clean_fin (s := ⟨18, [], someP S 1, z50⟩) (below_set (below3 HB.out) (by omega)) (Nat.zero_le _) (Kd.F_nil _ _ _) (Kd.R_reads' HR.out).2.1 (Kd.F_far (CF_new HR.out (by simp)) (fun k hk => CF_ne hk (w.heap.size + 1 + 1) (by omega) (by omega)) _) _ _ _ _ _ _ _ _ _
set_option maxHeartbeats 1000000 in
set_option maxRecDepth 100000 in
theorem clean_23 (N : List Int) (S : List ByteArray) (o0 o1 o2 o3 o4 o5 : Int) (A1 A2 : Option Addr) (c1 c2 : Nat) (w : World) (ok : Nat → Prop) (h1 : N.length ≤ c1) (F1 : Kd.F (Kd.int .i64) w ok A1 N.length N) (h2 : S.length ≤ c2) (F2 : Kd.F Kd.string w ok A2 S.length S) :
    Calls Try.prog 25 #[.agg #[.int .i64 23, .slice A1 N.length c1, .slice A2 S.length c2, .int .i64 o0, .int .i64 o1, .int .i64 o2, .int .i64 o3, .int .i64 o4, .int .i64 o5]] w (CleanAns w ok ⟨23, [], someP S 1, z50⟩) := by
  have hu1 := Try.underlying52
  have hu2 := Try.underlying50
  have FF1 := Lib.hid F1
  have FF2 := Lib.hid F2
  clear F1 F2
  go_enter Try.func25, Try.ntmps25
  go_wp2_with fail
  refine (annalslaw30_some.calls 2 A2 c2 S 1 (someP S 1) _ (Kd.F_now (Kd.F_alloc (Kd.F_alloc (Kd.F_alloc FF2.out _) _) _)) h2 (some_f S 1 (by omega))).mono ?_
  rintro e w1 ⟨v1, rfl, hR, hb⟩
  obtain ⟨B, d, hv⟩ := Kd.R_slice hR
  subst hv
  obtain ⟨g0, g1, g2⟩ := boxes hb
  obtain ⟨x0, x1, x2, x3, x4, x5, x6, x7, x8, xf⟩ := nine g2
  obtain ⟨y0, y1, y2, y3, y4, y5, y6, y7, y8, yf⟩ := nine g1
  obtain ⟨z0, z1, z2, z3, z4, z5, z6, z7, z8, zf⟩ := nine g0
  have G1 := Lib.hid g1
  have G2 := Lib.hid g2
  have HR := Lib.hid hR
  have HB := Lib.hid hb
  clear g0 g1 g2 hR hb
  go_wp2_with fail
  refine bodyPost_ret (results_cell_row rfl _ _ (w.heap.size + 1) 52 _ (0, 0) _ rfl (set9 (blk_far G1.out (by simp) _) _ _ _ _ _ _ _ _ _) Try.underlying52 rfl (by kernel_rfl)) rfl ?_
  exact clean_fin (s := ⟨23, [], someP S 1, z50⟩) (below_set (below3 HB.out) (by omega)) (Nat.zero_le _) (Kd.F_nil _ _ _) (Kd.R_reads' HR.out).2.1 (Kd.F_far (CF_new HR.out (by simp)) (fun k hk => CF_ne hk (w.heap.size + 1 + 1) (by omega) (by omega)) _) _ _ _ _ _ _ _ _ _
set_option maxHeartbeats 1000000 in
set_option maxRecDepth 100000 in
theorem clean_34 (N : List Int) (S : List ByteArray) (o0 o1 o2 o3 o4 o5 : Int) (A1 A2 : Option Addr) (c1 c2 : Nat) (w : World) (ok : Nat → Prop) (h1 : N.length ≤ c1) (F1 : Kd.F (Kd.int .i64) w ok A1 N.length N) (h2 : S.length ≤ c2) (F2 : Kd.F Kd.string w ok A2 S.length S) :
    Calls Try.prog 25 #[.agg #[.int .i64 34, .slice A1 N.length c1, .slice A2 S.length c2, .int .i64 o0, .int .i64 o1, .int .i64 o2, .int .i64 o3, .int .i64 o4, .int .i64 o5]] w (CleanAns w ok ⟨34, fewP N 1, someP S 1, z50⟩) := by
  have hu1 := Try.underlying52
  have hu2 := Try.underlying50
  have FF1 := Lib.hid F1
  have FF2 := Lib.hid F2
  clear F1 F2
  go_enter Try.func25, Try.ntmps25
  go_wp2_with fail
  refine (annalslaw30_few.calls 2 A1 c1 N 1 (fewP N 1) _ (Kd.F_now (Kd.F_alloc (Kd.F_alloc (Kd.F_alloc FF1.out _) _) _)) h1 (few_f N 1 (by omega))).mono ?_
  rintro e w1 ⟨v1, rfl, hR, hb⟩
  obtain ⟨B, d, hv⟩ := Kd.R_slice hR
  subst hv
  obtain ⟨g0, g1, g2⟩ := boxes hb
  obtain ⟨x0, x1, x2, x3, x4, x5, x6, x7, x8, xf⟩ := nine g2
  obtain ⟨y0, y1, y2, y3, y4, y5, y6, y7, y8, yf⟩ := nine g1
  obtain ⟨z0, z1, z2, z3, z4, z5, z6, z7, z8, zf⟩ := nine g0
  have G1 := Lib.hid g1
  have G2 := Lib.hid g2
  have HR := Lib.hid hR
  have HB := Lib.hid hb
  clear g0 g1 g2 hR hb
  go_wp2_with fail
  have hb0 : Below w.heap.size w (w1.setCell ⟨w.heap.size + 1 + 1, 1, none⟩ (.slice B (fewP N 1).length d)) := below_set (below3 HB.out) (by omega)
  refine (annalslaw30_some.calls 2 A2 c2 S 1 (someP S 1) _ (Kd.F_now (Kd.F_below FF2.out hb0)) h2 (some_f S 1 (by omega))).mono ?_
  rintro e w2 ⟨v2, rfl, hR2, hb2⟩
  obtain ⟨B2, d2, hv⟩ := Kd.R_slice hR2
  subst hv
  have hsz : w.heap.size + 1 + 1 < w1.heap.size := blk_lt G2.out
  have hsz2 : (w1.setCell ⟨w.heap.size + 1 + 1, 1, none⟩ (.slice B (fewP N 1).length d)).heap.size = w1.heap.size := by simp
  have K1 := (hb2.block (w.heap.size + 1) (by omega)).trans (blk_far G1.out (by simp) _)
  have K2 := (hb2.block (w.heap.size + 1 + 1) (by omega)).trans (blk_set G2.out 1 (.slice B (fewP N 1).length d))
  simp only [List.setIfInBounds_toArray, List.set_cons_succ, List.set_cons_zero] at K2
  clear x0 x1 x2 x3 x4 x5 x6 x7 x8 xf y0 y1 y2 y3 y4 y5 y6 y7 y8 yf z0 z1 z2 z3 z4 z5 z6 z7 z8 zf
  obtain ⟨x0, x1, x2, x3, x4, x5, x6, x7, x8, xf⟩ := nine K2
  obtain ⟨y0, y1, y2, y3, y4, y5, y6, y7, y8, yf⟩ := nine K1
  have HB2 := Lib.hid (hb0.trans (hb2.mono (by omega)))
  have HR2 := Lib.hid hR2
  have HF1 := Lib.hid (Kd.F_below (Kd.F_far (CF_new (w := w) (ok := ok) HR.out (by simp)) (fun k hk => CF_ne hk (w.heap.size + 1 + 1) (by omega) (by omega)) (.slice B (fewP N 1).length d) (p := ⟨w.heap.size + 1 + 1, 1, none⟩)) hb2)
  have KK := Lib.hid K1
  have hd1 := (Kd.R_reads' HR.out).2.1
  clear K1 K2 hR2 hb0 hb2
  go_wp2_with fail
  refine bodyPost_ret (results_cell_row rfl _ _ (w.heap.size + 1) 52 _ (0, 0) _ rfl (set9 (blk_far KK.out (by simp) _) _ _ _ _ _ _ _ _ _) Try.underlying52 rfl (by kernel_rfl)) rfl ?_
  exact clean_fin (s := ⟨34, fewP N 1, someP S 1, z50⟩) (below_set HB2.out (by omega)) hd1 (Kd.F_far HF1.out (fun k hk => CF_ne hk (w.heap.size + 1 + 1) (by omega) (by omega)) _) (Kd.R_reads' HR2.out).2.1 (Kd.F_far (CF_new HR2.out (by omega)) (fun k hk => CF_ne hk (w.heap.size + 1 + 1) (by omega) (by omega)) _) _ _ _ _ _ _ _ _ _
set_option maxHeartbeats 1000000 in
set_option maxRecDepth 100000 in
theorem clean_21 (N : List Int) (S : List ByteArray) (o0 o1 o2 o3 o4 o5 : Int) (A1 A2 : Option Addr) (c1 c2 : Nat) (w : World) (ok : Nat → Prop) (h1 : N.length ≤ c1) (F1 : Kd.F (Kd.int .i64) w ok A1 N.length N) (h2 : S.length ≤ c2) (F2 : Kd.F Kd.string w ok A2 S.length S) :
    Calls Try.prog 25 #[.agg #[.int .i64 21, .slice A1 N.length c1, .slice A2 S.length c2, .int .i64 o0, .int .i64 o1, .int .i64 o2, .int .i64 o3, .int .i64 o4, .int .i64 o5]] w (CleanAns w ok ⟨21, fewP N 1, someP S 2, z50⟩) := by
  have hu1 := Try.underlying52
  have hu2 := Try.underlying50
  have FF1 := Lib.hid F1
  have FF2 := Lib.hid F2
  clear F1 F2
  go_enter Try.func25, Try.ntmps25
  go_wp2_with fail
  refine (annalslaw30_few.calls 2 A1 c1 N 1 (fewP N 1) _ (Kd.F_now (Kd.F_alloc (Kd.F_alloc (Kd.F_alloc FF1.out _) _) _)) h1 (few_f N 1 (by omega))).mono ?_
  rintro e w1 ⟨v1, rfl, hR, hb⟩
  obtain ⟨B, d, hv⟩ := Kd.R_slice hR
  subst hv
  obtain ⟨g0, g1, g2⟩ := boxes hb
  obtain ⟨x0, x1, x2, x3, x4, x5, x6, x7, x8, xf⟩ := nine g2
  obtain ⟨y0, y1, y2, y3, y4, y5, y6, y7, y8, yf⟩ := nine g1
  obtain ⟨z0, z1, z2, z3, z4, z5, z6, z7, z8, zf⟩ := nine g0
  have G1 := Lib.hid g1
  have G2 := Lib.hid g2
  have HR := Lib.hid hR
  have HB := Lib.hid hb
  clear g0 g1 g2 hR hb
  go_wp2_with fail
  have hb0 : Below w.heap.size w (w1.setCell ⟨w.heap.size + 1 + 1, 1, none⟩ (.slice B (fewP N 1).length d)) := below_set (below3 HB.out) (by omega)
  refine (annalslaw30_some.calls 3 A2 c2 S 2 (someP S 2) _ (Kd.F_now (Kd.F_below FF2.out hb0)) h2 (some_f S 2 (by omega))).mono ?_
  rintro e w2 ⟨v2, rfl, hR2, hb2⟩
  obtain ⟨B2, d2, hv⟩ := Kd.R_slice hR2
  subst hv
  have hsz : w.heap.size + 1 + 1 < w1.heap.size := blk_lt G2.out
  have hsz2 : (w1.setCell ⟨w.heap.size + 1 + 1, 1, none⟩ (.slice B (fewP N 1).length d)).heap.size = w1.heap.size := by simp
  have K1 := (hb2.block (w.heap.size + 1) (by omega)).trans (blk_far G1.out (by simp) _)
  have K2 := (hb2.block (w.heap.size + 1 + 1) (by omega)).trans (blk_set G2.out 1 (.slice B (fewP N 1).length d))
  simp only [List.setIfInBounds_toArray, List.set_cons_succ, List.set_cons_zero] at K2
  clear x0 x1 x2 x3 x4 x5 x6 x7 x8 xf y0 y1 y2 y3 y4 y5 y6 y7 y8 yf z0 z1 z2 z3 z4 z5 z6 z7 z8 zf
  obtain ⟨x0, x1, x2, x3, x4, x5, x6, x7, x8, xf⟩ := nine K2
  obtain ⟨y0, y1, y2, y3, y4, y5, y6, y7, y8, yf⟩ := nine K1
  have HB2 := Lib.hid (hb0.trans (hb2.mono (by omega)))
  have HR2 := Lib.hid hR2
  have HF1 := Lib.hid (Kd.F_below (Kd.F_far (CF_new (w := w) (ok := ok) HR.out (by simp)) (fun k hk => CF_ne hk (w.heap.size + 1 + 1) (by omega) (by omega)) (.slice B (fewP N 1).length d) (p := ⟨w.heap.size + 1 + 1, 1, none⟩)) hb2)
  have KK := Lib.hid K1
  have hd1 := (Kd.R_reads' HR.out).2.1
  clear K1 K2 hR2 hb0 hb2
  go_wp2_with fail
  refine bodyPost_ret (results_cell_row rfl _ _ (w.heap.size + 1) 52 _ (0, 0) _ rfl (set9 (blk_far KK.out (by simp) _) _ _ _ _ _ _ _ _ _) Try.underlying52 rfl (by kernel_rfl)) rfl ?_
  exact clean_fin (s := ⟨21, fewP N 1, someP S 2, z50⟩) (below_set HB2.out (by omega)) hd1 (Kd.F_far HF1.out (fun k hk => CF_ne hk (w.heap.size + 1 + 1) (by omega) (by omega)) _) (Kd.R_reads' HR2.out).2.1 (Kd.F_far (CF_new HR2.out (by omega)) (fun k hk => CF_ne hk (w.heap.size + 1 + 1) (by omega) (by omega)) _) _ _ _ _ _ _ _ _ _
set_option maxHeartbeats 1000000 in
set_option maxRecDepth 100000 in
theorem clean_30 (N : List Int) (S : List ByteArray) (o0 o1 o2 o3 o4 o5 : Int) (A1 A2 : Option Addr) (c1 c2 : Nat) (w : World) (ok : Nat → Prop) (h1 : N.length ≤ c1) (F1 : Kd.F (Kd.int .i64) w ok A1 N.length N) (h2 : S.length ≤ c2) (F2 : Kd.F Kd.string w ok A2 S.length S) :
    Calls Try.prog 25 #[.agg #[.int .i64 30, .slice A1 N.length c1, .slice A2 S.length c2, .int .i64 o0, .int .i64 o1, .int .i64 o2, .int .i64 o3, .int .i64 o4, .int .i64 o5]] w (CleanAns w ok ⟨30, fewP N 1, someP S 2, z50⟩) := by
  have hu1 := Try.underlying52
  have hu2 := Try.underlying50
  have FF1 := Lib.hid F1
  have FF2 := Lib.hid F2
  clear F1 F2
  go_enter Try.func25, Try.ntmps25
  go_wp2_with fail
  refine (annalslaw30_few.calls 2 A1 c1 N 1 (fewP N 1) _ (Kd.F_now (Kd.F_alloc (Kd.F_alloc (Kd.F_alloc FF1.out _) _) _)) h1 (few_f N 1 (by omega))).mono ?_
  rintro e w1 ⟨v1, rfl, hR, hb⟩
  obtain ⟨B, d, hv⟩ := Kd.R_slice hR
  subst hv
  obtain ⟨g0, g1, g2⟩ := boxes hb
  obtain ⟨x0, x1, x2, x3, x4, x5, x6, x7, x8, xf⟩ := nine g2
  obtain ⟨y0, y1, y2, y3, y4, y5, y6, y7, y8, yf⟩ := nine g1
  obtain ⟨z0, z1, z2, z3, z4, z5, z6, z7, z8, zf⟩ := nine g0
  have G1 := Lib.hid g1
  have G2 := Lib.hid g2
  have HR := Lib.hid hR
  have HB := Lib.hid hb
  clear g0 g1 g2 hR hb
  go_wp2_with fail
  have hb0 : Below w.heap.size w (w1.setCell ⟨w.heap.size + 1 + 1, 1, none⟩ (.slice B (fewP N 1).length d)) := below_set (below3 HB.out) (by omega)
  refine (annalslaw30_some.calls 3 A2 c2 S 2 (someP S 2) _ (Kd.F_now (Kd.F_below FF2.out hb0)) h2 (some_f S 2 (by omega))).mono ?_
  rintro e w2 ⟨v2, rfl, hR2, hb2⟩
  obtain ⟨B2, d2, hv⟩ := Kd.R_slice hR2
  subst hv
  have hsz : w.heap.size + 1 + 1 < w1.heap.size := blk_lt G2.out
  have hsz2 : (w1.setCell ⟨w.heap.size + 1 + 1, 1, none⟩ (.slice B (fewP N 1).length d)).heap.size = w1.heap.size := by simp
  have K1 := (hb2.block (w.heap.size + 1) (by omega)).trans (blk_far G1.out (by simp) _)
  have K2 := (hb2.block (w.heap.size + 1 + 1) (by omega)).trans (blk_set G2.out 1 (.slice B (fewP N 1).length d))
  simp only [List.setIfInBounds_toArray, List.set_cons_succ, List.set_cons_zero] at K2
  clear x0 x1 x2 x3 x4 x5 x6 x7 x8 xf y0 y1 y2 y3 y4 y5 y6 y7 y8 yf z0 z1 z2 z3 z4 z5 z6 z7 z8 zf
  obtain ⟨x0, x1, x2, x3, x4, x5, x6, x7, x8, xf⟩ := nine K2
  obtain ⟨y0, y1, y2, y3, y4, y5, y6, y7, y8, yf⟩ := nine K1
  have HB2 := Lib.hid (hb0.trans (hb2.mono (by omega)))
  have HR2 := Lib.hid hR2
  have HF1 := Lib.hid (Kd.F_below (Kd.F_far (CF_new (w := w) (ok := ok) HR.out (by simp)) (fun k hk => CF_ne hk (w.heap.size + 1 + 1) (by omega) (by omega)) (.slice B (fewP N 1).length d) (p := ⟨w.heap.size + 1 + 1, 1, none⟩)) hb2)
  have KK := Lib.hid K1
  have hd1 := (Kd.R_reads' HR.out).2.1
  clear K1 K2 hR2 hb0 hb2
  go_wp2_with fail
  refine bodyPost_ret (results_cell_row rfl _ _ (w.heap.size + 1) 52 _ (0, 0) _ rfl (set9 (blk_far KK.out (by simp) _) _ _ _ _ _ _ _ _ _) Try.underlying52 rfl (by kernel_rfl)) rfl ?_
  exact clean_fin (s := ⟨30, fewP N 1, someP S 2, z50⟩) (below_set HB2.out (by omega)) hd1 (Kd.F_far HF1.out (fun k hk => CF_ne hk (w.heap.size + 1 + 1) (by omega) (by omega)) _) (Kd.R_reads' HR2.out).2.1 (Kd.F_far (CF_new HR2.out (by omega)) (fun k hk => CF_ne hk (w.heap.size + 1 + 1) (by omega) (by omega)) _) _ _ _ _ _ _ _ _ _
set_option maxHeartbeats 1000000 in
set_option maxRecDepth 100000 in
theorem clean_none (k : Int) (hk1 : 1 ≤ k) (hk2 : k ≤ 34) (e1 : (k == 1) = false) (e12 : (k == 12) = false) (e3 : (k == 3) = false) (e11 : (k == 11) = false) (e5 : (k == 5) = false) (e7 : (k == 7) = false) (e13 : (k == 13) = false) (e17 : (k == 17) = false) (e24 : (k == 24) = false) (e32 : (k == 32) = false) (e33 : (k == 33) = false) (e6 : (k == 6) = false) (e22 : (k == 22) = false) (e8 : (k == 8) = false) (e9 : (k == 9) = false) (e18 : (k == 18) = false) (e23 : (k == 23) = false) (e34 : (k == 34) = false) (e21 : (k == 21) = false) (e30 : (k == 30) = false) (N : List Int) (S : List ByteArray) (o0 o1 o2 o3 o4 o5 : Int) (A1 A2 : Option Addr) (c1 c2 : Nat) (w : World) (ok : Nat → Prop) :
    Calls Try.prog 25 #[.agg #[.int .i64 k, .slice A1 N.length c1, .slice A2 S.length c2, .int .i64 o0, .int .i64 o1, .int .i64 o2, .int .i64 o3, .int .i64 o4, .int .i64 o5]] w (CleanAns w ok ⟨k, [], [], z50⟩) := by
  have hu1 := Try.underlying52
  have hu2 := Try.underlying50
  go_enter Try.func25, Try.ntmps25
  go_wp2_with fail
  refine bodyPost_ret (results_cell_row rfl _ _ (w.heap.size + 1) 52 _ (0, 0) _ rfl (boxes0 w _ _ _) Try.underlying52 rfl (by kernel_rfl)) rfl ?_
  exact clean_fin0 (s := ⟨k, [], [], z50⟩) (below0 _ _ _ _) (Nat.zero_le _) (Kd.F_nil _ _ _) (Nat.zero_le _) (Kd.F_nil _ _ _)
set_option maxHeartbeats 1000000 in
set_option maxRecDepth 100000 in
theorem clean_lt (k : Int) (hk : k < 1) (N : List Int) (S : List ByteArray) (o0 o1 o2 o3 o4 o5 : Int) (A1 A2 : Option Addr) (c1 c2 : Nat) (w : World) (ok : Nat → Prop) :
    Calls Try.prog 25 #[.agg #[.int .i64 k, .slice A1 N.length c1, .slice A2 S.length c2, .int .i64 o0, .int .i64 o1, .int .i64 o2, .int .i64 o3, .int .i64 o4, .int .i64 o5]] w (CleanAns w ok ⟨4, [], [], z50⟩) := by
  have hu1 := Try.underlying52
  have hu2 := Try.underlying50
  go_enter Try.func25, Try.ntmps25
  go_wp2_with fail
  refine bodyPost_ret (results_cell_row rfl _ _ (w.heap.size + 1) 52 _ (0, 0) _ rfl (boxes0 w _ _ _) Try.underlying52 rfl (by kernel_rfl)) rfl ?_
  exact clean_fin0 (s := ⟨4, [], [], z50⟩) (below0 _ _ _ _) (Nat.zero_le _) (Kd.F_nil _ _ _) (Nat.zero_le _) (Kd.F_nil _ _ _)
set_option maxHeartbeats 1000000 in
set_option maxRecDepth 100000 in
theorem clean_gt (k : Int) (hk : 34 < k) (N : List Int) (S : List ByteArray) (o0 o1 o2 o3 o4 o5 : Int) (A1 A2 : Option Addr) (c1 c2 : Nat) (w : World) (ok : Nat → Prop) :
    Calls Try.prog 25 #[.agg #[.int .i64 k, .slice A1 N.length c1, .slice A2 S.length c2, .int .i64 o0, .int .i64 o1, .int .i64 o2, .int .i64 o3, .int .i64 o4, .int .i64 o5]] w (CleanAns w ok ⟨4, [], [], z50⟩) := by
  have hu1 := Try.underlying52
  have hu2 := Try.underlying50
  go_enter Try.func25, Try.ntmps25
  go_wp2_with fail
  refine bodyPost_ret (results_cell_row rfl _ _ (w.heap.size + 1) 52 _ (0, 0) _ rfl (boxes0 w _ _ _) Try.underlying52 rfl (by kernel_rfl)) rfl ?_
  exact clean_fin0 (s := ⟨4, [], [], z50⟩) (below0 _ _ _ _) (Nat.zero_le _) (Kd.F_nil _ _ _) (Nat.zero_le _) (Kd.F_nil _ _ _)
theorem clean_calls (s : S52) (A1 A2 : Option Addr) (c1 c2 : Nat) (w : World) (ok : Nat → Prop) (h1 : s.f1.length ≤ c1) (F1 : Kd.F (Kd.int .i64) w ok A1 s.f1.length s.f1) (h2 : s.f2.length ≤ c2) (F2 : Kd.F Kd.string w ok A2 s.f2.length s.f2) :
    Calls Try.prog 25 #[.agg #[.int .i64 s.f0, .slice A1 s.f1.length c1, .slice A2 s.f2.length c2, .int .i64 s.f3.f0, .int .i64 s.f3.f1, .int .i64 s.f3.f2, .int .i64 s.f3.f3, .int .i64 s.f3.f4, .int .i64 s.f3.f5]] w (CleanAns w ok (cleanP s)) := by
  obtain ⟨k, N, S, ⟨o0, o1, o2, o3, o4, o5⟩⟩ := s
  by_cases e1 : k = 1
  · subst e1
    have e : cleanP ⟨1, N, S, ⟨o0, o1, o2, o3, o4, o5⟩⟩ = ⟨1, [], [], ⟨o0, o1, o2, o3, o4, o5⟩⟩ := by simp [cleanP, cleanAt, cleanK]
    rw [e]
    exact clean_1 N S o0 o1 o2 o3 o4 o5 A1 A2 c1 c2 w ok h1 F1 h2 F2
  by_cases e12 : k = 12
  · subst e12
    have e : cleanP ⟨12, N, S, ⟨o0, o1, o2, o3, o4, o5⟩⟩ = ⟨12, [], [], ⟨o0, o1, o2, o3, o4, o5⟩⟩ := by simp [cleanP, cleanAt, cleanK]
    rw [e]
    exact clean_12 N S o0 o1 o2 o3 o4 o5 A1 A2 c1 c2 w ok h1 F1 h2 F2
  by_cases e3 : k = 3
  · subst e3
    have e : cleanP ⟨3, N, S, ⟨o0, o1, o2, o3, o4, o5⟩⟩ = ⟨3, [], S, z50⟩ := by simp [cleanP, cleanAt, cleanK]
    rw [e]
    exact clean_3 N S o0 o1 o2 o3 o4 o5 A1 A2 c1 c2 w ok h1 F1 h2 F2
  by_cases e11 : k = 11
  · subst e11
    have e : cleanP ⟨11, N, S, ⟨o0, o1, o2, o3, o4, o5⟩⟩ = ⟨11, [], S, z50⟩ := by simp [cleanP, cleanAt, cleanK]
    rw [e]
    exact clean_11 N S o0 o1 o2 o3 o4 o5 A1 A2 c1 c2 w ok h1 F1 h2 F2
  by_cases e5 : k = 5
  · subst e5
    have e : cleanP ⟨5, N, S, ⟨o0, o1, o2, o3, o4, o5⟩⟩ = ⟨5, fewP N 1, [], z50⟩ := by simp [cleanP, cleanAt, cleanK]
    rw [e]
    exact clean_5 N S o0 o1 o2 o3 o4 o5 A1 A2 c1 c2 w ok h1 F1 h2 F2
  by_cases e7 : k = 7
  · subst e7
    have e : cleanP ⟨7, N, S, ⟨o0, o1, o2, o3, o4, o5⟩⟩ = ⟨7, fewP N 1, [], z50⟩ := by simp [cleanP, cleanAt, cleanK]
    rw [e]
    exact clean_7 N S o0 o1 o2 o3 o4 o5 A1 A2 c1 c2 w ok h1 F1 h2 F2
  by_cases e13 : k = 13
  · subst e13
    have e : cleanP ⟨13, N, S, ⟨o0, o1, o2, o3, o4, o5⟩⟩ = ⟨13, fewP N 1, [], z50⟩ := by simp [cleanP, cleanAt, cleanK]
    rw [e]
    exact clean_13 N S o0 o1 o2 o3 o4 o5 A1 A2 c1 c2 w ok h1 F1 h2 F2
  by_cases e17 : k = 17
  · subst e17
    have e : cleanP ⟨17, N, S, ⟨o0, o1, o2, o3, o4, o5⟩⟩ = ⟨17, fewP N 1, [], z50⟩ := by simp [cleanP, cleanAt, cleanK]
    rw [e]
    exact clean_17 N S o0 o1 o2 o3 o4 o5 A1 A2 c1 c2 w ok h1 F1 h2 F2
  by_cases e24 : k = 24
  · subst e24
    have e : cleanP ⟨24, N, S, ⟨o0, o1, o2, o3, o4, o5⟩⟩ = ⟨24, fewP N 1, [], z50⟩ := by simp [cleanP, cleanAt, cleanK]
    rw [e]
    exact clean_24 N S o0 o1 o2 o3 o4 o5 A1 A2 c1 c2 w ok h1 F1 h2 F2
  by_cases e32 : k = 32
  · subst e32
    have e : cleanP ⟨32, N, S, ⟨o0, o1, o2, o3, o4, o5⟩⟩ = ⟨32, fewP N 1, [], z50⟩ := by simp [cleanP, cleanAt, cleanK]
    rw [e]
    exact clean_32 N S o0 o1 o2 o3 o4 o5 A1 A2 c1 c2 w ok h1 F1 h2 F2
  by_cases e33 : k = 33
  · subst e33
    have e : cleanP ⟨33, N, S, ⟨o0, o1, o2, o3, o4, o5⟩⟩ = ⟨33, fewP N 1, [], z50⟩ := by simp [cleanP, cleanAt, cleanK]
    rw [e]
    exact clean_33 N S o0 o1 o2 o3 o4 o5 A1 A2 c1 c2 w ok h1 F1 h2 F2
  by_cases e6 : k = 6
  · subst e6
    have e : cleanP ⟨6, N, S, ⟨o0, o1, o2, o3, o4, o5⟩⟩ = ⟨6, fewP N 2, [], z50⟩ := by simp [cleanP, cleanAt, cleanK]
    rw [e]
    exact clean_6 N S o0 o1 o2 o3 o4 o5 A1 A2 c1 c2 w ok h1 F1 h2 F2
  by_cases e22 : k = 22
  · subst e22
    have e : cleanP ⟨22, N, S, ⟨o0, o1, o2, o3, o4, o5⟩⟩ = ⟨22, fewP N 2, [], z50⟩ := by simp [cleanP, cleanAt, cleanK]
    rw [e]
    exact clean_22 N S o0 o1 o2 o3 o4 o5 A1 A2 c1 c2 w ok h1 F1 h2 F2
  by_cases e8 : k = 8
  · subst e8
    have e : cleanP ⟨8, N, S, ⟨o0, o1, o2, o3, o4, o5⟩⟩ = ⟨8, if N.length < 4 then fewP N 4 else N, [], z50⟩ := by simp [cleanP, cleanAt, cleanK]
    rw [e]
    exact clean_8 N S o0 o1 o2 o3 o4 o5 A1 A2 c1 c2 w ok h1 F1 h2 F2
  by_cases e9 : k = 9
  · subst e9
    have e : cleanP ⟨9, N, S, ⟨o0, o1, o2, o3, o4, o5⟩⟩ = ⟨9, [], someP S 1, z50⟩ := by simp [cleanP, cleanAt, cleanK]
    rw [e]
    exact clean_9 N S o0 o1 o2 o3 o4 o5 A1 A2 c1 c2 w ok h1 F1 h2 F2
  by_cases e18 : k = 18
  · subst e18
    have e : cleanP ⟨18, N, S, ⟨o0, o1, o2, o3, o4, o5⟩⟩ = ⟨18, [], someP S 1, z50⟩ := by simp [cleanP, cleanAt, cleanK]
    rw [e]
    exact clean_18 N S o0 o1 o2 o3 o4 o5 A1 A2 c1 c2 w ok h1 F1 h2 F2
  by_cases e23 : k = 23
  · subst e23
    have e : cleanP ⟨23, N, S, ⟨o0, o1, o2, o3, o4, o5⟩⟩ = ⟨23, [], someP S 1, z50⟩ := by simp [cleanP, cleanAt, cleanK]
    rw [e]
    exact clean_23 N S o0 o1 o2 o3 o4 o5 A1 A2 c1 c2 w ok h1 F1 h2 F2
  by_cases e34 : k = 34
  · subst e34
    have e : cleanP ⟨34, N, S, ⟨o0, o1, o2, o3, o4, o5⟩⟩ = ⟨34, fewP N 1, someP S 1, z50⟩ := by simp [cleanP, cleanAt, cleanK]
    rw [e]
    exact clean_34 N S o0 o1 o2 o3 o4 o5 A1 A2 c1 c2 w ok h1 F1 h2 F2
  by_cases e21 : k = 21
  · subst e21
    have e : cleanP ⟨21, N, S, ⟨o0, o1, o2, o3, o4, o5⟩⟩ = ⟨21, fewP N 1, someP S 2, z50⟩ := by simp [cleanP, cleanAt, cleanK]
    rw [e]
    exact clean_21 N S o0 o1 o2 o3 o4 o5 A1 A2 c1 c2 w ok h1 F1 h2 F2
  by_cases e30 : k = 30
  · subst e30
    have e : cleanP ⟨30, N, S, ⟨o0, o1, o2, o3, o4, o5⟩⟩ = ⟨30, fewP N 1, someP S 2, z50⟩ := by simp [cleanP, cleanAt, cleanK]
    rw [e]
    exact clean_30 N S o0 o1 o2 o3 o4 o5 A1 A2 c1 c2 w ok h1 F1 h2 F2
  by_cases e_lt : k < 1
  · have e : cleanP ⟨k, N, S, ⟨o0, o1, o2, o3, o4, o5⟩⟩ = ⟨4, [], [], z50⟩ := by
      have : cleanK k = 4 := by unfold cleanK; rw [if_pos (by omega)]
      unfold cleanP
      rw [this]
      simp [cleanAt]
    rw [e]
    exact clean_lt k e_lt N S o0 o1 o2 o3 o4 o5 A1 A2 c1 c2 w ok
  by_cases e_gt : 34 < k
  · have e : cleanP ⟨k, N, S, ⟨o0, o1, o2, o3, o4, o5⟩⟩ = ⟨4, [], [], z50⟩ := by
      have : cleanK k = 4 := by unfold cleanK; rw [if_pos (by omega)]
      unfold cleanP
      rw [this]
      simp [cleanAt]
    rw [e]
    exact clean_gt k e_gt N S o0 o1 o2 o3 o4 o5 A1 A2 c1 c2 w ok
  have e : cleanP ⟨k, N, S, ⟨o0, o1, o2, o3, o4, o5⟩⟩ = ⟨k, [], [], z50⟩ := by
    have : cleanK k = k := by unfold cleanK; rw [if_neg (by omega)]
    unfold cleanP
    rw [this]
    simp [cleanAt, e1, e12, e3, e11, e5, e7, e13, e17, e24, e32, e33, e6, e22, e8, e9, e18, e23, e34, e21, e30]
  rw [e]
  exact clean_none k (by omega) (by omega) (beq_eq_false_iff_ne.2 e1) (beq_eq_false_iff_ne.2 e12) (beq_eq_false_iff_ne.2 e3) (beq_eq_false_iff_ne.2 e11) (beq_eq_false_iff_ne.2 e5) (beq_eq_false_iff_ne.2 e7) (beq_eq_false_iff_ne.2 e13) (beq_eq_false_iff_ne.2 e17) (beq_eq_false_iff_ne.2 e24) (beq_eq_false_iff_ne.2 e32) (beq_eq_false_iff_ne.2 e33) (beq_eq_false_iff_ne.2 e6) (beq_eq_false_iff_ne.2 e22) (beq_eq_false_iff_ne.2 e8) (beq_eq_false_iff_ne.2 e9) (beq_eq_false_iff_ne.2 e18) (beq_eq_false_iff_ne.2 e23) (beq_eq_false_iff_ne.2 e34) (beq_eq_false_iff_ne.2 e21) (beq_eq_false_iff_ne.2 e30) N S o0 o1 o2 o3 o4 o5 A1 A2 c1 c2 w ok
end Go.Proofs.Ytnpmkaklkonofaa.Txt
