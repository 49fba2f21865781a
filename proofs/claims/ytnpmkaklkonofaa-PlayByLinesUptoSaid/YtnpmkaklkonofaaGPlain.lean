/- The document's own Dec writes the same digits. -/
import Derived.Test.YtnpmkaklkonofaaQx1
import Derived.Test.YtnpmkaklkonofaaQx6
import Derived.Test.YtnpmkaklkonofaaQx5
import Derived.Test.YtnpmkaklkonofaaQx8
import Derived.Test.YtnpmkaklkonofaaGHand
import Derived.Test.YtnpmkaklkonofaaGBase
import Derived.Test.YtnpmkaklkonofaaGRStep
set_option linter.unusedVariables false
set_option linter.unusedSimpArgs false
namespace Go.Proofs.Ytnpmkaklkonofaa.Txt
open Go.RowKit Go.Proofs.YtnpmkaklkonofaaW.PrintWords Go.Proofs.YtnpmkaklkonofaaW.PrintLast Go.Proofs.Ytnpmkaklkonofaa.Hand Go.Proofs.Ytnpmkaklkonofaa.Q

set_option maxRecDepth 100000 in
theorem rsign_f (x : Int) (v : Nat) (hx : x = v) (h : v < 10) : annalsref4_sign.f (⟨#[48, 49, 50, 51, 52, 53, 54, 55, 56, 57, 97, 98, 99, 100, 101, 102]⟩ : ByteArray) x = some ⟨[UInt8.ofNat (48 + v)].toArray⟩ := by
  subst hx
  have key : ∀ m : Fin 10, ((⟨#[48, 49, 50, 51, 52, 53, 54, 55, 56, 57, 97, 98, 99, 100, 101, 102]⟩ : ByteArray).extract m.val (m.val + 1)).data.toList = [UInt8.ofNat (48 + m.val)] := by decide +kernel
  have hw : wrap64 ((v : Int) + 1) = ((v + 1 : Nat) : Int) := by unfold wrap64; omega
  have hz : (⟨#[48, 49, 50, 51, 52, 53, 54, 55, 56, 57, 97, 98, 99, 100, 101, 102]⟩ : ByteArray).size = 16 := rfl
  unfold annalsref4_sign.f
  rw [hw, hz, if_pos (by omega), if_pos (by omega), if_pos (by omega), Int.toNat_natCast, Int.toNat_natCast]
  congr 1
  exact ByteArray.ext (Array.toList_inj.1 (key ⟨v, h⟩))

theorem decB_small (v : Nat) (h : v < 10) : decB (v : Int) = ⟨[UInt8.ofNat (48 + v)].toArray⟩ := by
  unfold decB decL
  rw [if_neg (by omega), Int.natAbs_natCast, digs_lt h]; rfl
theorem decB_ge (v : Nat) (h : 10 ≤ v) : decB (v : Int) = decB ((v / 10 : Nat) : Int) ++ ⟨[UInt8.ofNat (48 + v % 10)].toArray⟩ := by
  unfold decB decL
  rw [if_neg (by omega), if_neg (by omega), Int.natAbs_natCast, Int.natAbs_natCast, digs_ge h, append_arr]; simp
theorem decB_neg_small (v : Nat) (h : v < 10) (h0 : 0 < v) : decB (-(v : Int)) = (⟨#[45]⟩ : ByteArray) ++ ⟨[UInt8.ofNat (48 + v)].toArray⟩ := by
  unfold decB decL
  rw [if_pos (by omega), show (-(v : Int)).natAbs = v by omega, digs_lt h]
  exact (append_arr [45] _).symm
theorem decB_neg_ge (v : Nat) (h : 10 ≤ v) : decB (-(v : Int)) = decB (-((v / 10 : Nat) : Int)) ++ ⟨[UInt8.ofNat (48 + v % 10)].toArray⟩ := by
  unfold decB decL
  rw [if_pos (by omega), if_pos (by omega), show (-(v : Int)).natAbs = v by omega, show (-((v / 10 : Nat) : Int)).natAbs = v / 10 by omega, digs_ge h, append_arr]; simp
theorem decB_size (x : Int) (h1 : -9223372036854775808 ≤ x) (h2 : x ≤ 9223372036854775807) : (decB x).size ≤ 20 := by
  unfold decB; rw [size_arr]; exact decL_len x h1 h2

theorem rdec_pos (k : Nat) : ∀ v : Nat, v ≤ 9223372036854775807 → v < 10 ^ (k + 1) → annalsref4_Dec.f (2 * k + 2) (v : Int) = some (decB (v : Int)) := by
  induction k with
  | zero =>
    intro v hv hk
    have h10 : v < 10 := by simpa using hk
    simp only [annalsref4_Dec.f, annalsref4_Dec.j0]
    rw [if_pos (by omega), if_pos (by simp; omega), rsign_f _ v rfl h10, Option.bind_some, decB_small v h10]
  | succ k ih =>
    intro v hv hk
    rw [show 2 * (k + 1) + 2 = (2 * k + 2) + 1 + 1 by omega]
    generalize 2 * k + 2 = m_ at ih ⊢
    simp only [annalsref4_Dec.f, annalsref4_Dec.j0]
    rw [if_pos (by omega)]
    by_cases h10 : v < 10
    · rw [if_pos (by simp; omega), rsign_f _ v rfl h10, Option.bind_some, decB_small v h10]
    · have ht : wrap64 (Int.tdiv (v : Int) 10) = ((v / 10 : Nat) : Int) := by
        rw [Int.tdiv_eq_ediv_of_nonneg (by omega)]; unfold wrap64; omega
      have hm : Int.tmod (v : Int) 10 = ((v % 10 : Nat) : Int) := by rw [Int.tmod_eq_emod_of_nonneg (by omega)]; omega
      rw [if_neg (by simp; omega), if_pos (by omega), ht, ih (v / 10) (by omega) (by rw [Nat.pow_succ] at hk; omega), Option.bind_some, rsign_f _ (v % 10) hm (by omega), Option.bind_some]
      have hsz := decB_size ((v / 10 : Nat) : Int) (by omega) (by omega)
      rw [if_pos (by rw [size_arr [UInt8.ofNat (48 + v % 10)], List.length_singleton]; omega), decB_ge v (by omega)]

theorem rdec_neg (k : Nat) : ∀ v : Nat, 0 < v → v ≤ 9223372036854775808 → v < 10 ^ (k + 1) → annalsref4_Dec.f (2 * k + 2) (-(v : Int)) = some (decB (-(v : Int))) := by
  induction k with
  | zero =>
    intro v h0 hv hk
    have h10 : v < 10 := by simpa using hk
    simp only [annalsref4_Dec.f, annalsref4_Dec.j0]
    have hw : wrap64 (- -(v : Int)) = (v : Int) := by unfold wrap64; omega
    rw [if_neg (by omega), if_neg (by simp), if_neg (by omega), if_pos (by omega), rsign_f _ v hw h10, Option.bind_some, if_pos (by rw [size_arr, List.length_singleton]; omega), decB_neg_small v h10 h0]
  | succ k ih =>
    intro v h0 hv hk
    rw [show 2 * (k + 1) + 2 = (2 * k + 2) + 1 + 1 by omega]
    generalize 2 * k + 2 = m_ at ih ⊢
    simp only [annalsref4_Dec.f, annalsref4_Dec.j0]
    rw [if_neg (by omega), if_neg (by simp), if_neg (by omega)]
    by_cases h10 : v < 10
    · have hw : wrap64 (- -(v : Int)) = (v : Int) := by unfold wrap64; omega
      rw [if_pos (by omega), rsign_f _ v hw h10, Option.bind_some, if_pos (by rw [size_arr, List.length_singleton]; omega), decB_neg_small v h10 h0]
    · have ht : wrap64 (Int.tdiv (-(v : Int)) 10) = -((v / 10 : Nat) : Int) := by
        rw [Int.neg_tdiv, Int.tdiv_eq_ediv_of_nonneg (by omega)]; unfold wrap64; omega
      have hm : wrap64 (-(Int.tmod (-(v : Int)) 10)) = ((v % 10 : Nat) : Int) := by
        rw [Int.neg_tmod, Int.tmod_eq_emod_of_nonneg (by omega)]; unfold wrap64; omega
      rw [if_neg (by omega), ht, ih (v / 10) (by omega) (by omega) (by rw [Nat.pow_succ] at hk; omega), Option.bind_some, rsign_f _ (v % 10) hm (by omega), Option.bind_some]
      have hsz := decB_size (-((v / 10 : Nat) : Int)) (by omega) (by omega)
      rw [if_pos (by rw [size_arr [UInt8.ofNat (48 + v % 10)], List.length_singleton]; omega), decB_neg_ge v (by omega)]

theorem rdec_f (x : Int) (h1 : -9223372036854775808 ≤ x) (h2 : x ≤ 9223372036854775807) : annalsref4_Dec.f 40 x = some (decB x) := by
  by_cases h : 0 ≤ x
  · have := rdec_pos 19 x.toNat (by omega) (by omega)
    rwa [show ((x.toNat : Nat) : Int) = x by omega] at this
  · have := rdec_neg 19 (-x).toNat (by omega) (by omega) (by omega)
    rwa [show -(((-x).toNat : Nat) : Int) = x by omega] at this

theorem rdec_calls (x : Int) (w : World) (h1 : -9223372036854775808 ≤ x) (h2 : x ≤ 9223372036854775807) :
    Calls Try.prog 34 #[.int .i64 x] w fun e w' => e = .returned (.string (decB x)) ∧ Drawn0 w w' :=
  annalsref4_Dec.calls 40 x _ w (rdec_f x h1 h2)

end Go.Proofs.Ytnpmkaklkonofaa.Txt


/- Plain: a decimal text is read as the same number by the program and by the document. -/
namespace Go.Proofs.Ytnpmkaklkonofaa.Txt
open Go.RowKit Go.Proofs.YtnpmkaklkonofaaW.PrintWords Go.Proofs.YtnpmkaklkonofaaW.PrintLast Go.Proofs.Ytnpmkaklkonofaa.Hand Go.Proofs.Ytnpmkaklkonofaa.Q

theorem wrap64_eq {a b : Int} (h : (a - b) % 18446744073709551616 = 0) : wrap64 a = wrap64 b := by unfold wrap64; omega
theorem wrap64_self (a : Int) : (a - wrap64 a) % 18446744073709551616 = 0 := by unfold wrap64; omega
theorem wrap64_of {a : Int} (h1 : -9223372036854775808 ≤ a) (h2 : a ≤ 9223372036854775807) : wrap64 a = a := by unfold wrap64; omega
theorem wrap64_range (a : Int) : -9223372036854775808 ≤ wrap64 a ∧ wrap64 a ≤ 9223372036854775807 := by unfold wrap64; omega

/-- The number that digits say, without bounds. -/
def exFold (n : Int) (l : List UInt8) : Int := l.foldl (fun n c => 10 * n + ((c.toNat : Int) - 48)) n
theorem exFold_digs : ∀ v : Nat, exFold 0 (digs v) = v := by
  intro v
  induction v using Nat.strongRecOn with
  | _ v ih =>
    by_cases h : v < 10
    · rw [digs_lt h]
      simp only [exFold, List.foldl_cons, List.foldl_nil]
      rw [UInt8.toNat_ofNat_of_lt' (by show 48 + v < 256; omega)]
      omega
    · have := ih (v / 10) (by omega)
      rw [digs_ge (by omega)]
      unfold exFold at this ⊢
      rw [List.foldl_append, this]
      simp only [List.foldl_cons, List.foldl_nil]
      rw [UInt8.toNat_ofNat_of_lt' (by show 48 + v % 10 < 256; omega)]
      omega
theorem digs_digit : ∀ (v : Nat) (c : UInt8), c ∈ digs v → 48 ≤ c.toNat ∧ c.toNat ≤ 57 := by
  intro v
  induction v using Nat.strongRecOn with
  | _ v ih =>
    intro c hc
    by_cases h : v < 10
    · rw [digs_lt h] at hc
      rw [List.mem_singleton.1 hc, UInt8.toNat_ofNat_of_lt' (by show 48 + v < 256; omega)]
      omega
    · rw [digs_ge (by omega)] at hc
      rcases List.mem_append.1 hc with hc | hc
      · exact ih (v / 10) (by omega) c hc
      · rw [List.mem_singleton.1 hc, UInt8.toNat_ofNat_of_lt' (by show 48 + v % 10 < 256; omega)]
        omega

theorem undecStep_wrap (n m : Int) (c : UInt8) (h : (n - m) % 18446744073709551616 = 0) : (undecStep n c - (10 * m + ((c.toNat : Int) - 48))) % 18446744073709551616 = 0 := by
  unfold undecStep
  have h1 := wrap64_self (wrap64 (wrap64 (10 * n) + (c.toNat : Int)) - 48)
  have h2 := wrap64_self (wrap64 (10 * n) + (c.toNat : Int))
  have h3 := wrap64_self (10 * n)
  omega
theorem fold_wrap : ∀ (l : List UInt8) (n m : Int), (n - m) % 18446744073709551616 = 0 → (l.foldl undecStep n - exFold m l) % 18446744073709551616 = 0
  | [], n, m, h => h
  | c :: l, n, m, h => fold_wrap l (undecStep n c) (10 * m + ((c.toNat : Int) - 48)) (undecStep_wrap n m c h)

/-- What is written is read back by the program. -/
theorem undecV_dec (v : Int) (h1 : -9223372036854775808 ≤ v) (h2 : v ≤ 9223372036854775807) : undecV (decL v) = v := by
  unfold undecV decL
  have hf := fold_wrap (digs v.natAbs) 0 0 rfl
  rw [exFold_digs] at hf
  have hr := fold_range (digs v.natAbs) 0 (by omega) (by omega)
  by_cases hn : v < 0
  · rw [if_pos hn]
    simp only [List.cons_append, List.nil_append, List.headD_cons, if_true, List.drop_succ_cons, List.drop_zero]
    have := wrap64_self (-(digs v.natAbs).foldl undecStep 0)
    have hw := wrap64_range (-(digs v.natAbs).foldl undecStep 0)
    omega
  · rw [if_neg hn]
    simp only [List.nil_append]
    have hh : (digs v.natAbs).headD 0 ≠ 45 := by
      have hp := digs_pos v.natAbs
      match hd : digs v.natAbs, hp with
      | c :: r, _ =>
        have := digs_digit v.natAbs c (by rw [hd]; exact List.mem_cons_self)
        intro e
        rw [List.headD_cons] at e
        rw [e] at this
        have h45 : (45 : UInt8).toNat = 45 := rfl
        omega
    rw [if_neg hh]
    omega

/-- The document's sum: the digits alone, taken away. -/
def rundStep (n : Int) (c : UInt8) : Int := if 48 ≤ c.toNat ∧ c.toNat ≤ 57 then wrap64 (wrap64 (10 * n) - (((c.toNat : Int) - 48) % 256)) else n
def rundV (l : List UInt8) : Int := if l.headD 0 = 45 then l.foldl rundStep 0 else wrap64 (-(l.foldl rundStep 0))
theorem rund_range : ∀ (l : List UInt8) (n : Int), -9223372036854775808 ≤ n → n ≤ 9223372036854775807 → -9223372036854775808 ≤ l.foldl rundStep n ∧ l.foldl rundStep n ≤ 9223372036854775807
  | [], n, h1, h2 => ⟨h1, h2⟩
  | c :: l, n, h1, h2 => by
    rw [List.foldl_cons]
    unfold rundStep
    split
    · have := wrap64_range (wrap64 (10 * n) - (((c.toNat : Int) - 48) % 256))
      exact rund_range l _ this.1 this.2
    · exact rund_range l n h1 h2
theorem rund_wrap : ∀ (l : List UInt8) (n m : Int), (∀ c ∈ l, 48 ≤ c.toNat ∧ c.toNat ≤ 57) → (n + m) % 18446744073709551616 = 0 → (l.foldl rundStep n + exFold m l) % 18446744073709551616 = 0
  | [], n, m, _, h => h
  | c :: l, n, m, hc, h => by
    have hcd := hc c List.mem_cons_self
    have ih := rund_wrap l (rundStep n c) (10 * m + ((c.toNat : Int) - 48)) (fun x hx => hc x (List.mem_cons_of_mem _ hx)) (by
      unfold rundStep
      rw [if_pos hcd]
      have h1 := wrap64_self (wrap64 (10 * n) - (((c.toNat : Int) - 48) % 256))
      have h2 := wrap64_self (10 * n)
      omega)
    exact ih
theorem rundV_dec (v : Int) (h1 : -9223372036854775808 ≤ v) (h2 : v ≤ 9223372036854775807) : rundV (decL v) = v := by
  unfold rundV decL
  have hf := rund_wrap (digs v.natAbs) 0 0 (digs_digit v.natAbs) rfl
  rw [exFold_digs] at hf
  have hr := rund_range (digs v.natAbs) 0 (by omega) (by omega)
  by_cases hn : v < 0
  · rw [if_pos hn]
    simp only [List.cons_append, List.nil_append, List.headD_cons, if_true, List.foldl_cons]
    have e : rundStep 0 45 = 0 := rfl
    rw [e]
    omega
  · rw [if_neg hn]
    simp only [List.nil_append]
    have hh : (digs v.natAbs).headD 0 ≠ 45 := by
      have hp := digs_pos v.natAbs
      match hd : digs v.natAbs, hp with
      | c :: r, _ =>
        have := digs_digit v.natAbs c (by rw [hd]; exact List.mem_cons_self)
        intro e
        rw [List.headD_cons] at e
        rw [e] at this
        have h45 : (45 : UInt8).toNat = 45 := rfl
        omega
    rw [if_neg hh]
    have := wrap64_self (-(digs v.natAbs).foldl rundStep 0)
    have hw := wrap64_range (-(digs v.natAbs).foldl rundStep 0)
    omega

theorem undecV_range (l : List UInt8) : -9223372036854775808 ≤ undecV l ∧ undecV l ≤ 9223372036854775807 := by
  unfold undecV
  split
  · exact wrap64_range _
  · exact fold_range l 0 (by omega) (by omega)
theorem rundV_range (l : List UInt8) : -9223372036854775808 ≤ rundV l ∧ rundV l ≤ 9223372036854775807 := by
  unfold rundV
  split
  · exact rund_range l 0 (by omega) (by omega)
  · exact wrap64_range _

theorem decB_list {v : Int} {s : ByteArray} (h : decB v = s) : s.data.toList = decL v := by rw [← h]; rfl
theorem unDec_eq (s : ByteArray) (h : s.size ≤ 20) : unDec s = if decB (rundV s.data.toList) = s then (rundV s.data.toList, 0) else (0, 42) := by
  have hu := undecV_range s.data.toList
  have hr := rundV_range s.data.toList
  by_cases hp : decB (undecV s.data.toList) = s
  · have e : rundV s.data.toList = undecV s.data.toList := by
      have := decB_list hp
      rw [this, rundV_dec _ hu.1 hu.2, undecV_dec _ hu.1 hu.2]
    have h0 : ¬ (s.size = 0 ∨ 20 < s.size) := by
      have hd : s.data.toList.length = (decL (undecV s.data.toList)).length := by rw [← decB_list hp]
      have h1 : 0 < (decL (undecV s.data.toList)).length := by
        unfold decL
        have := digs_pos (undecV s.data.toList).natAbs
        rw [List.length_append]
        omega
      have h2 : s.data.toList.length = s.size := Array.length_toList
      omega
    rw [e, undec_yes s _ h0 rfl]
  · have hq : ¬ decB (rundV s.data.toList) = s := fun hq => hp (by
      have := decB_list hq
      have e : undecV s.data.toList = rundV s.data.toList := by rw [this, undecV_dec _ hr.1 hr.2, rundV_dec _ hr.1 hr.2]
      rw [e]; exact hq)
    rw [if_neg hq]
    by_cases h0 : s.size = 0 ∨ 20 < s.size
    · exact undec_no s h0
    · rw [undec_yes s _ h0 rfl, if_neg hp]

theorem rdec_more (x : Int) (h1 : -9223372036854775808 ≤ x) (h2 : x ≤ 9223372036854775807) (k : Nat) (hk : 40 ≤ k) : annalsref4_Dec.f k x = some (decB x) := by
  induction k with
  | zero => omega
  | succ k ih =>
    by_cases h : k + 1 = 40
    · rw [h]; exact rdec_f x h1 h2
    · exact annalsref4_Dec.mono x k _ (ih (by omega))
theorem headD_get {α : Type} (l : List α) (d : α) (h : 0 < l.length) : l.headD d = l[0] := by
  cases l with
  | nil => simp at h
  | cons a r => rfl
theorem bt_nat (s : ByteArray) (i : Nat) (hi : i < s.size) : bt s (i : Int) = ((s.data.toList[i]'(by rw [Array.length_toList]; exact hi)).toNat : Int) := by
  have := bt_at s (i : Int) (by simpa using hi)
  rw [← this]
  simp
  rfl

theorem rund_loop (s : ByteArray) (hs : s.size ≤ 20) : ∀ (d k i : Nat) (n : Int), d + i = s.size → 60 + d ≤ k → -9223372036854775808 ≤ n → n ≤ 9223372036854775807 → n = (s.data.toList.take i).foldl rundStep 0 →
    annalsref4_UnDec.l0 k s n (i : Int) = some (if decB (rundV s.data.toList) = s then (rundV s.data.toList, 0) else (0, 42)) := by
  have hlen : s.data.toList.length = s.size := Array.length_toList
  intro d
  induction d with
  | zero =>
    intro k i n hd hk h1 h2 hn
    obtain ⟨k, rfl⟩ : ∃ m, k = m + 2 := ⟨k - 2, by omega⟩
    have hi : i = s.size := by omega
    have hall : s.data.toList.take i = s.data.toList := List.take_of_length_le (by omega)
    rw [hall] at hn
    have fin : annalsref4_UnDec.j1 (k + 1) s n (s.data.toList.headD 0 != 45) = some (if decB (rundV s.data.toList) = s then (rundV s.data.toList, 0) else (0, 42)) := by
      rw [annalsref4_UnDec.j1]
      by_cases hh : s.data.toList.headD 0 = 45
      · have hb : (s.data.toList.headD 0 != 45) = false := by rw [hh]; rfl
        have hv : rundV s.data.toList = n := by unfold rundV; rw [if_pos hh, hn]
        rw [hb, if_neg (by decide), rdec_more n h1 h2 k (by omega), Option.bind_some, hv]
        by_cases he : decB n = s
        · rw [if_pos (by rw [he]), if_pos he]
        · rw [if_neg (fun h => he (ByteArray.ext (Array.toList_inj.1 (by rw [← ByteArray.toList_eq, ← ByteArray.toList_eq]; exact h)))), if_neg he]
      · have hb : (s.data.toList.headD 0 != 45) = true := by simpa using hh
        have hv : rundV s.data.toList = wrap64 (-n) := by unfold rundV; rw [if_neg hh, hn]
        have hw := wrap64_range (-n)
        rw [hb, if_pos rfl, rdec_more _ hw.1 hw.2 k (by omega), Option.bind_some, hv]
        by_cases he : decB (wrap64 (-n)) = s
        · rw [if_pos (by rw [he]), if_pos he]
        · rw [if_neg (fun h => he (ByteArray.ext (Array.toList_inj.1 (by rw [← ByteArray.toList_eq, ← ByteArray.toList_eq]; exact h)))), if_neg he]
    rw [annalsref4_UnDec.l0, if_neg (by omega)]
    by_cases h0 : s.size = 0
    · have he : s.data.toList = [] := List.eq_nil_of_length_eq_zero (by omega)
      rw [if_pos (by omega)]
      rw [he] at fin
      rw [he]
      exact fin
    · rw [if_neg (by omega), if_pos (by omega)]
      have hb0 : (bt s 0 != 45) = (s.data.toList.headD 0 != 45) := by
        have := bt_nat s 0 (by omega)
        rw [show ((0 : Nat) : Int) = 0 from rfl] at this
        rw [this]
        rw [headD_get _ _ (by omega), Bool.eq_iff_iff]
        simp only [bne_iff_ne, ne_eq]
        constructor
        · intro h e; rw [e] at h; exact h rfl
        · intro h e; exact h (UInt8.toNat_inj.1 (by have : (45 : UInt8).toNat = 45 := rfl; omega))
      rw [hb0]
      exact fin
  | succ d ih =>
    intro k i n hd hk h1 h2 hn
    obtain ⟨k, rfl⟩ : ∃ m, k = m + 1 := ⟨k - 1, by omega⟩
    have hi : i < s.size := by omega
    have hw : wrap64 ((i : Int) + 1) = ((i + 1 : Nat) : Int) := by rw [wrap64_of (by omega) (by omega)]; omega
    have hb := bt_nat s i hi
    have hnext : (s.data.toList.take (i + 1)).foldl rundStep 0 = rundStep n (s.data.toList[i]'(by omega)) := by
      rw [List.take_succ_eq_append_getElem (by omega), List.foldl_append, ← hn]; rfl
    generalize s.data.toList[i]'(by omega) = c at hb hnext
    rw [annalsref4_UnDec.l0, if_pos (by omega), if_pos (by omega), hb, hw]
    by_cases hc : 48 ≤ c.toNat ∧ c.toNat ≤ 57
    · have e : rundStep n c = wrap64 (wrap64 (10 * n) - (((c.toNat : Int) - 48) % 256)) := if_pos hc
      rw [if_pos (by omega), if_pos (by omega)]
      have hr := wrap64_range (wrap64 (10 * n) - (((c.toNat : Int) - 48) % 256))
      exact ih k (i + 1) _ (by omega) (by omega) hr.1 hr.2 (by rw [hnext, e])
    · have e : rundStep n c = n := if_neg hc
      have hg := ih k (i + 1) n (by omega) (by omega) h1 h2 (by rw [hnext, e])
      by_cases h48 : 48 ≤ c.toNat
      · rw [if_pos (by omega), if_neg (by omega)]; exact hg
      · rw [if_neg (by omega)]; exact hg

theorem rundec_f (s : ByteArray) (k : Nat) (hk : 100 ≤ k) : annalsref4_UnDec.f k s = some (unDec s) := by
  unfold annalsref4_UnDec.f
  by_cases h : 20 < s.size
  · rw [if_pos (by omega), undec_no s (.inr h)]
  · rw [if_neg (by omega), unDec_eq s (by omega)]
    have := rund_loop s (by omega) s.size k 0 0 (by omega) (by omega) (by omega) (by omega) rfl
    rw [show ((0 : Nat) : Int) = 0 from rfl] at this
    exact this

end Go.Proofs.Ytnpmkaklkonofaa.Txt


/- Plain: a word is read as the same bytes by the program and by the document. -/
namespace Go.Proofs.Ytnpmkaklkonofaa.Txt
open Go.RowKit Go.Proofs.YtnpmkaklkonofaaW.PrintWords Go.Proofs.YtnpmkaklkonofaaW.PrintLast Go.Proofs.Ytnpmkaklkonofaa.Hand Go.Proofs.Ytnpmkaklkonofaa.Q

/-- A great hexadecimal digit's value; nought of any other sign. -/
def valR (c : UInt8) : Nat := if 48 ≤ c.toNat ∧ c.toNat ≤ 57 then c.toNat - 48 else if 65 ≤ c.toNat ∧ c.toNat ≤ 70 then c.toNat - 55 else 0
theorem valR_lt (c : UInt8) : valR c < 16 := by unfold valR; split <;> (try split) <;> omega
theorem valR_hex : ∀ n : Nat, n < 16 → valR (hexU n) = n := by
  have key : ∀ m : Fin 16, valR (hexU m.val) = m.val := by decide
  exact fun n h => key ⟨n, h⟩
theorem hexP_hex : ∀ n : Nat, n < 16 → hexP (hexU n) = n + 1 := by
  have key : ∀ m : Fin 16, hexP (hexU m.val) = m.val + 1 := by decide
  exact fun n h => key ⟨n, h⟩

theorem rvalue_f (c : UInt8) (k : Nat) (hk : 20 ≤ k) : annalsref4_value.f k (⟨#[48, 49, 50, 51, 52, 53, 54, 55, 56, 57, 65, 66, 67, 68, 69, 70]⟩ : ByteArray) (c.toNat : Int) = some (valR c : Int) := by
  have key : ∀ m : Fin 256, annalsref4_value.f 20 (⟨#[48, 49, 50, 51, 52, 53, 54, 55, 56, 57, 65, 66, 67, 68, 69, 70]⟩ : ByteArray) (m.val : Int) = some (valR (UInt8.ofNat m.val) : Int) := by decide +kernel
  have h20 := key ⟨c.toNat, c.toNat_lt⟩
  simp only [UInt8.ofNat_toNat] at h20
  induction k with
  | zero => omega
  | succ k ih =>
    by_cases h : k + 1 = 20
    · rw [h]; exact h20
    · exact annalsref4_value.mono _ _ k _ (ih (by omega))

/-- A word's bytes, guessed. -/
def parseR : List UInt8 → List UInt8
  | [] => []
  | c :: r => if c = 37 then
      match r with
      | a :: b :: r' => UInt8.ofNat (16 * valR a + valR b) :: parseR r'
      | [a] => [c, a]
      | [] => [c]
    else c :: parseR r
theorem parseR_plain {c : UInt8} {r : List UInt8} (h : c ≠ 37) : parseR (c :: r) = c :: parseR r := by
  conv => lhs; rw [parseR.eq_def]
  exact if_neg h
theorem parseR_hex (a b : UInt8) (r : List UInt8) : parseR (37 :: a :: b :: r) = UInt8.ofNat (16 * valR a + valR b) :: parseR r := by
  conv => lhs; rw [parseR.eq_def]
  simp
theorem parseR_two (a : UInt8) : parseR [37, a] = 37 :: [a] := by rw [parseR.eq_def]; simp
theorem parseR_one (c : UInt8) : parseR [c] = [c] := by
  rw [parseR.eq_def]
  by_cases h : c = 37
  · simp [h]
  · simp [h, parseR]

theorem escC_cases (c : UInt8) : (escC c = [c] ∧ c ≠ 37) ∨ escC c = [37, hexU (c.toNat / 16), hexU (c.toNat % 16)] := by
  unfold escC
  split
  · rename_i h
    exact .inl ⟨rfl, fun e => by rw [e] at h; exact h.2.2 rfl⟩
  · exact .inr rfl
theorem parseR_esc : ∀ t : List UInt8, parseR (t.flatMap escC) = t
  | [] => rfl
  | c :: t => by
    have ih := parseR_esc t
    have hlt := c.toNat_lt
    rw [List.flatMap_cons]
    rcases escC_cases c with ⟨e, h⟩ | e
    · rw [e, List.singleton_append, parseR_plain h, ih]
    · rw [e]
      show parseR (37 :: hexU (c.toNat / 16) :: hexU (c.toNat % 16) :: t.flatMap escC) = _
      rw [parseR_hex, ih, valR_hex _ (by omega), valR_hex _ (by omega), show 16 * (c.toNat / 16) + c.toNat % 16 = c.toNat by omega, UInt8.ofNat_toNat]
theorem unescS_esc : ∀ t : List UInt8, unescS (t.flatMap escC) = some t
  | [] => by simp [unescS]
  | c :: t => by
    have ih := unescS_esc t
    have hlt := c.toNat_lt
    rw [List.flatMap_cons]
    rcases escC_cases c with ⟨e, h⟩ | e
    · rw [e, List.singleton_append, unescS_plain h, ih]; rfl
    · rw [e]
      show unescS (37 :: hexU (c.toNat / 16) :: hexU (c.toNat % 16) :: t.flatMap escC) = _
      rw [unescS_hex (by rw [hexP_hex _ (by omega), hexP_hex _ (by omega)]; omega), ih, Option.map_some]
      unfold hexC
      rw [hexP_hex _ (by omega), hexP_hex _ (by omega), show (c.toNat / 16 + 1 - 1) * 16 + (c.toNat % 16 + 1 - 1) = c.toNat by omega, UInt8.ofNat_toNat]

theorem escB_list {t : List UInt8} {w : ByteArray} (h : escB ⟨t.toArray⟩ = w) : w.data.toList = escL t := by rw [← h]; rfl
theorem escL_flat {t : List UInt8} (h : t ≠ []) : escL t = t.flatMap escC := if_neg h
def finR (w : ByteArray) (t : List UInt8) : ByteArray × Int := if escB ⟨t.toArray⟩ = w then (⟨t.toArray⟩, 0) else (⟨#[]⟩, 44)
theorem unesc_eq (w : ByteArray) (h : w ≠ ⟨#[37]⟩) : unesc w = finR w (parseR w.data.toList) := by
  have ne : ∀ t, escB ⟨t.toArray⟩ = w → t ≠ [] := fun t ht e => h (by rw [← ht, e]; rfl)
  by_cases hp : escB ⟨(parseR w.data.toList).toArray⟩ = w
  · have hl := escB_list hp
    rw [escL_flat (ne _ hp)] at hl
    have hs : unescS w.data.toList = some (parseR w.data.toList) := by
      conv => lhs; rw [hl]
      exact unescS_esc _
    rw [unesc_some h hs]; rfl
  · have e : finR w (parseR w.data.toList) = (⟨#[]⟩, 44) := if_neg hp
    rw [e]
    cases hs : unescS w.data.toList with
    | none => exact unesc_none h hs
    | some t =>
      rw [unesc_some h hs]
      by_cases ht : escB ⟨t.toArray⟩ = w
      · exfalso
        apply hp
        have hl := escB_list ht
        rw [escL_flat (ne _ ht)] at hl
        rw [hl, parseR_esc]; exact ht
      · exact if_neg ht

theorem bytesI_snoc (acc : List UInt8) (c : UInt8) : bytesI acc ++ [(c.toNat : Int)] = bytesI (acc ++ [c]) := by rw [bytesI_append]; rfl
theorem wrap_nat (i n : Nat) (h : i + n ≤ 9223372036854775807) : Hid (wrap64 ((i : Int) + (n : Int)) = ((i + n : Nat) : Int)) := by
  show _ = _
  rw [wrap64_of (by omega) (by omega)]
  omega
theorem val_nat (a b : Nat) (ha : a < 16) (hb : b < 16) : Hid ((wrap64 (wrap64 (16 * (a : Int)) + (b : Int))) % 256 = ((UInt8.ofNat (16 * a + b)).toNat : Int)) := by
  show _ = _
  rw [wrap64_of (a := 16 * (a : Int)) (by omega) (by omega), wrap64_of (by omega) (by omega), UInt8.toNat_ofNat_of_lt' (by show _ < 256; omega)]
  omega
theorem resc_loop (s : ByteArray) (hs : s.size ≤ 35184372088832) : ∀ (d k i : Nat) (acc : List UInt8), d + i = s.size → acc.length ≤ i → 60 + 2 * d ≤ k →
    annalsref4_Unescape.l0 k s (bytesI acc) (i : Int) = some (finR s (acc ++ parseR (s.data.toList.drop i))) := by
  have hlen : s.data.toList.length = s.size := Array.length_toList
  intro d
  induction d using Nat.strongRecOn with
  | _ d ih =>
    intro k i acc hd ha hk
    obtain ⟨k, rfl⟩ : ∃ m, k = m + 2 := ⟨k - 2, by omega⟩
    rw [annalsref4_Unescape.l0]
    by_cases hi : i < s.size
    · have hb := bt_nat s i hi
      have hdr : s.data.toList.drop i = s.data.toList[i]'(by omega) :: s.data.toList.drop (i + 1) := List.drop_eq_getElem_cons (by omega)
      have hw1 : Hid (wrap64 ((i : Int) + 1) = ((i + 1 : Nat) : Int)) := wrap_nat i 1 (by omega)
      have hw2 : Hid (wrap64 ((i : Int) + 2) = ((i + 2 : Nat) : Int)) := wrap_nat i 2 (by omega)
      have hw3 : Hid (wrap64 ((i : Int) + 3) = ((i + 3 : Nat) : Int)) := wrap_nat i 3 (by omega)
      have hal : (bytesI acc).length < 140737488355328 := by rw [bytesI_length]; omega
      -- one byte as it stands
      have plain : parseR (s.data.toList.drop i) = s.data.toList[i]'(by omega) :: parseR (s.data.toList.drop (i + 1)) → annalsref4_Unescape.j1 (k + 1) s (bytesI acc) (i : Int) false = some (finR s (acc ++ parseR (s.data.toList.drop i))) := by
        intro hp
        have hg := ih (d - 1) (by omega) k (i + 1) (acc ++ [s.data.toList[i]'(by omega)]) (by omega) (by rw [List.length_append]; simp; omega) (by omega)
        rw [annalsref4_Unescape.j1, if_neg (by decide), if_pos (by omega), if_pos (by omega), if_pos hal, hb, bytesI_snoc, hw1.out, hg, hp]
        simp
      rw [if_pos (by omega), if_pos (by omega), hb]
      generalize hc : s.data.toList[i]'(by omega) = c at hdr plain hb
      by_cases h37 : c = 37
      · rw [if_pos (by rw [h37]; rfl), hw2.out]
        by_cases h2 : i + 2 < s.size
        · have hb1 := bt_nat s (i + 1) (by omega)
          have hb2 := bt_nat s (i + 2) h2
          have hd2 : s.data.toList.drop (i + 1) = s.data.toList[i + 1]'(by omega) :: s.data.toList[i + 2]'(by omega) :: s.data.toList.drop (i + 3) := by
            rw [List.drop_eq_getElem_cons (by omega), List.drop_eq_getElem_cons (by omega)]
          generalize s.data.toList[i + 1]'(by omega) = a at hb1 hd2
          generalize s.data.toList[i + 2]'(by omega) = b at hb2 hd2
          have hg := ih (d - 3) (by omega) k (i + 3) (acc ++ [UInt8.ofNat (16 * valR a + valR b)]) (by omega) (by rw [List.length_append]; simp; omega) (by omega)
          have l1 := valR_lt a
          have l2 := valR_lt b
          have hv : Hid ((wrap64 (wrap64 (16 * (valR a : Int)) + (valR b : Int))) % 256 = ((UInt8.ofNat (16 * valR a + valR b)).toNat : Int)) := val_nat _ _ l1 l2
          rw [decide_eq_true (by omega), annalsref4_Unescape.j1, if_pos rfl, hw1.out, hw2.out, if_pos (by omega), if_pos (by omega), hb1, rvalue_f a k (by omega), Option.bind_some, if_pos (by omega), if_pos (by omega), hb2, rvalue_f b k (by omega), Option.bind_some, if_pos hal, hv.out, bytesI_snoc, hw3.out, hg, hdr, h37, hd2, parseR_hex]
          simp
        · rw [decide_eq_false (by omega)]
          apply plain
          have hl : (s.data.toList.drop (i + 1)).length ≤ 1 := by rw [List.length_drop]; omega
          rw [hdr, h37]
          match hr : s.data.toList.drop (i + 1), hl with
          | [], _ => rfl
          | [x], _ => rw [parseR_two, parseR_one]
      · rw [if_neg (fun e => h37 (UInt8.toNat_inj.1 (by have : (37 : UInt8).toNat = 37 := rfl; omega)))]
        exact plain (by rw [hdr, parseR_plain h37])
    · have hall : s.data.toList.drop i = [] := List.drop_eq_nil_of_le (by omega)
      rw [if_neg (by omega), hall, strOf_bytesI]
      unfold annalsref4_Escape.f
      rw [if_pos (by
        show acc.toArray.size ≤ _
        rw [List.size_toArray]; omega), Option.bind_some]
      simp only [parseR, List.append_nil]
      unfold finR
      by_cases he : escB ⟨acc.toArray⟩ = s
      · rw [if_pos (by rw [he]), if_pos he]
      · rw [if_neg (fun h => he (ByteArray.ext (Array.toList_inj.1 (by rw [← ByteArray.toList_eq, ← ByteArray.toList_eq]; exact h)))), if_neg he]

theorem runesc_f (s : ByteArray) (hs : s.size ≤ 35184372088832) (k : Nat) (hk : 100 + 2 * s.size ≤ k) : annalsref4_Unescape.f k s = some (unesc s) := by
  unfold annalsref4_Unescape.f
  by_cases h : s = ⟨#[37]⟩
  · rw [if_pos (by rw [h, ByteArray.toList_eq]), h, unesc_pct]
  · rw [if_neg (fun e => h (ByteArray.ext (Array.toList_inj.1 (by rw [← ByteArray.toList_eq, e])))), unesc_eq s h]
    have := resc_loop s hs s.size k 0 [] (by omega) (by simp) (by omega)
    rw [show ((0 : Nat) : Int) = 0 from rfl, List.nil_append, List.drop_zero] at this
    exact this

theorem unesc_err (s : ByteArray) : (unesc s).2 = 0 ∨ (unesc s).2 = 44 := by
  unfold unesc
  split
  · exact .inl rfl
  · split
    · exact .inr rfl
    · split
      · exact .inl rfl
      · exact .inr rfl

end Go.Proofs.Ytnpmkaklkonofaa.Txt


/- Plain: a line's words, and a text's lines, are the same by the program and by the document. -/
namespace Go.Proofs.Ytnpmkaklkonofaa.Txt
open Go.RowKit Go.Proofs.YtnpmkaklkonofaaW.PrintWords Go.Proofs.YtnpmkaklkonofaaW.PrintLast Go.Proofs.Ytnpmkaklkonofaa.Hand Go.Proofs.Ytnpmkaklkonofaa.Q

def mkB (l : List UInt8) : ByteArray := ⟨l.toArray⟩
/-- The parts of a text at each c; cur: what stands ahead of it. -/
def splitL (c : UInt8) : List UInt8 → List UInt8 → List (List UInt8)
  | [], cur => [cur]
  | x :: r, cur => if x = c then cur :: splitL c r [] else splitL c r (cur ++ [x])
/-- The lines of a text. -/
def lineS : List UInt8 → List UInt8 → List (List UInt8)
  | [], cur => if cur = [] then [] else [cur]
  | x :: r, cur => if x = 10 then cur :: lineS r [] else lineS r (cur ++ [x])
theorem splitL_len (c : UInt8) : ∀ l cur, (splitL c l cur).length ≤ l.length + 1
  | [], cur => by simp [splitL]
  | x :: r, cur => by
    unfold splitL
    split
    · have := splitL_len c r []; simp; omega
    · have := splitL_len c r (cur ++ [x]); simp; omega
theorem splitL_pos (c : UInt8) : ∀ l cur, 0 < (splitL c l cur).length
  | [], cur => by simp [splitL]
  | x :: r, cur => by
    unfold splitL
    split
    · simp
    · exact splitL_pos c r _
theorem splitL_size (c : UInt8) : ∀ l cur (p : List UInt8), p ∈ splitL c l cur → p.length ≤ cur.length + l.length
  | [], cur, p, h => by simp [splitL] at h; subst h; simp
  | x :: r, cur, p, h => by
    unfold splitL at h
    split at h
    · rcases List.mem_cons.1 h with rfl | h
      · omega
      · have := splitL_size c r [] p h; simp at this ⊢; omega
    · have := splitL_size c r (cur ++ [x]) p h; simp at this ⊢; omega
theorem lineS_size : ∀ l cur (p : List UInt8), p ∈ lineS l cur → p.length ≤ cur.length + l.length
  | [], cur, p, h => by
    unfold lineS at h
    split at h
    · cases h
    · rw [List.mem_singleton.1 h]; omega
  | x :: r, cur, p, h => by
    unfold lineS at h
    split at h
    · rcases List.mem_cons.1 h with rfl | h
      · omega
      · have := lineS_size r [] p h; simp at this ⊢; omega
    · have := lineS_size r (cur ++ [x]) p h; simp at this ⊢; omega
theorem lineS_len : ∀ l cur, (lineS l cur).length ≤ l.length + 1
  | [], cur => by unfold lineS; split <;> simp
  | x :: r, cur => by
    unfold lineS
    split
    · have := lineS_len r []; simp; omega
    · have := lineS_len r (cur ++ [x]); simp; omega

theorem extract_mk (s : ByteArray) (a b : Nat) (hab : a ≤ b) (hb : b ≤ s.size) : s.extract a b = mkB ((s.data.toList.drop a).take (b - a)) := by
  apply ByteArray.ext
  apply Array.toList_inj.1
  show (s.extract a b).data.toList = _
  rw [ByteArray.data_extract, Array.toList_extract]
  rfl
theorem cur_next (l : List UInt8) (a i : Nat) (ha : a ≤ i) (hi : i < l.length) : (l.drop a).take (i + 1 - a) = (l.drop a).take (i - a) ++ [l[i]] := by
  rw [show i + 1 - a = (i - a) + 1 by omega, List.take_succ_eq_append_getElem (by rw [List.length_drop]; omega), List.getElem_drop]
  congr 3
  omega

theorem parted_loop (s : ByteArray) (c : UInt8) (hs : s.size ≤ 8796093022000) : ∀ (d k a i : Nat) (acc : List ByteArray), d + i = s.size → a ≤ i → acc.length ≤ i → d < k →
    text_parted.l0 k s (c.toNat : Int) acc (a : Int) (i : Int) = some (acc ++ (splitL c (s.data.toList.drop i) ((s.data.toList.drop a).take (i - a))).map mkB) := by
  have hlen : s.data.toList.length = s.size := Array.length_toList
  intro d
  induction d with
  | zero =>
    intro k a i acc hd ha hacc hk
    obtain ⟨k, rfl⟩ : ∃ m, k = m + 1 := ⟨k - 1, by omega⟩
    obtain rfl : i = s.size := by omega
    rw [text_parted.l0, if_neg (by omega), if_pos (by omega), if_pos (by omega), if_pos (by omega), List.drop_eq_nil_of_le (by omega : s.data.toList.length ≤ s.size)]
    simp only [splitL, List.map_cons, List.map_nil, Int.toNat_natCast]
    rw [extract_mk s a s.size ha (Nat.le_refl _)]
  | succ d ih =>
    intro k a i acc hd ha hacc hk
    obtain ⟨k, rfl⟩ : ∃ m, k = m + 1 := ⟨k - 1, by omega⟩
    have hb := bt_nat s i (by omega)
    have hw : Hid (wrap64 ((i : Int) + 1) = ((i + 1 : Nat) : Int)) := wrap_nat i 1 (by omega)
    have hdr : s.data.toList.drop i = s.data.toList[i]'(by omega) :: s.data.toList.drop (i + 1) := List.drop_eq_getElem_cons (by omega)
    have hcur := cur_next s.data.toList a i ha (by omega)
    rw [text_parted.l0, if_pos (by omega), if_pos (by omega), hb, hdr]
    generalize s.data.toList[i]'(by omega) = x at hb hdr hcur
    by_cases hx : x = c
    · have hg := ih k (i + 1) (i + 1) (acc ++ [mkB ((s.data.toList.drop a).take (i - a))]) (by omega) (Nat.le_refl _) (by simp; omega) (by omega)
      rw [if_pos (by rw [hx]), if_pos (by omega), if_pos (by omega), if_pos (by omega), if_pos (by omega), hw.out]
      simp only [Int.toNat_natCast]
      rw [extract_mk s a i ha (by omega), hg]
      conv => rhs; rw [splitL, if_pos hx]
      simp
    · have hg := ih k a (i + 1) acc (by omega) (by omega) (by omega) (by omega)
      rw [if_neg (fun e => hx (UInt8.toNat_inj.1 (by omega))), hw.out, hg, hcur]
      conv => rhs; rw [splitL, if_neg hx]
theorem parted_f (s : ByteArray) (c : UInt8) (hs : s.size ≤ 8796093022000) (k : Nat) (hk : s.size < k) : text_parted.f k s (c.toNat : Int) = some ((splitL c s.data.toList []).map mkB) := by
  have := parted_loop s c hs s.size k 0 0 [] (by omega) (Nat.le_refl _) (by simp) hk
  unfold text_parted.f
  simpa using this

/-- Every word read; the first refusal. -/
def unescAll : List ByteArray → List ByteArray → List ByteArray × Int
  | acc, [] => (acc, 0)
  | acc, p :: r => if (unesc p).2 = 0 then unescAll (acc ++ [(unesc p).1]) r else ([], (unesc p).2)
/-- A line's words. -/
def wordsP (s : ByteArray) : List ByteArray × Int := if s.data.toList = [] then ([], 0) else unescAll [] ((splitL 32 s.data.toList []).map mkB)
theorem unescAll_err : ∀ acc l, (unescAll acc l).2 = 0 ∨ (unescAll acc l).2 = 44
  | acc, [] => .inl rfl
  | acc, p :: r => by
    unfold unescAll
    split
    · exact unescAll_err _ r
    · rename_i h
      exact .inr ((unesc_err p).resolve_left h)
theorem unescAll_len : ∀ acc l, (unescAll acc l).2 = 0 → (unescAll acc l).1.length = acc.length + l.length
  | acc, [], _ => by simp [unescAll]
  | acc, p :: r, h => by
    unfold unescAll at h ⊢
    split at h
    · rename_i h0
      rw [if_pos h0, unescAll_len _ r h]; simp; omega
    · rename_i h0; exact absurd h h0
theorem wordsP_pos (s : ByteArray) (h : s.data.toList ≠ []) (h0 : (wordsP s).2 = 0) : 0 < (wordsP s).1.length := by
  unfold wordsP at h0 ⊢
  rw [if_neg h] at h0 ⊢
  rw [unescAll_len _ _ h0]
  have := splitL_pos 32 s.data.toList []
  simp; omega

theorem words_loop (parts : List ByteArray) (hp : parts.length ≤ 8796093022001) (hsz : ∀ p ∈ parts, p.size ≤ 35184372088832) : ∀ (d k i : Nat) (acc : List ByteArray), d + i = parts.length → acc.length ≤ i → d < k →
    text_Words.l0 k acc parts (parts.length : Int) (i : Int) = some (unescAll acc (parts.drop i)) := by
  intro d
  induction d with
  | zero =>
    intro k i acc hd ha hk
    obtain ⟨k, rfl⟩ : ∃ m, k = m + 1 := ⟨k - 1, by omega⟩
    rw [text_Words.l0, if_neg (by omega), List.drop_eq_nil_of_le (by omega)]
    rfl
  | succ d ih =>
    intro k i acc hd ha hk
    obtain ⟨k, rfl⟩ : ∃ m, k = m + 1 := ⟨k - 1, by omega⟩
    have hw : Hid (wrap64 ((i : Int) + 1) = ((i + 1 : Nat) : Int)) := wrap_nat i 1 (by omega)
    have hdr : parts.drop i = parts[i]'(by omega) :: parts.drop (i + 1) := List.drop_eq_getElem_cons (by omega)
    have hrd : rdOf ByteArray.empty parts (i : Int) = parts[i]'(by omega) := by
      unfold rdOf
      rw [Int.toNat_natCast, List.getD_eq_getElem?_getD, List.getElem?_eq_getElem (by omega)]; rfl
    have hm : (parts[i]'(by omega)).size ≤ 35184372088832 := hsz _ (List.getElem_mem _)
    rw [text_Words.l0, if_pos (by omega), if_pos (by omega), if_pos (by omega), hrd, hdr]
    generalize parts[i]'(by omega) = p at hm hrd hdr
    unfold text_Unescape.f
    rw [if_pos hm, Option.bind_some]
    by_cases h0 : (unesc p).2 = 0
    · have hg := ih k (i + 1) (acc ++ [(unesc p).1]) (by omega) (by simp; omega) (by omega)
      rw [if_pos h0, if_pos (by omega), hw.out, hg]
      conv => rhs; rw [unescAll, if_pos h0]
    · rw [if_neg h0]
      conv => rhs; rw [unescAll, if_neg h0]
theorem parts_ok (s : ByteArray) (c : UInt8) (hs : s.size ≤ 8796093022000) : ((splitL c s.data.toList []).map mkB).length ≤ 8796093022001 ∧ ∀ p ∈ (splitL c s.data.toList []).map mkB, p.size ≤ 8796093022000 := by
  have hlen : s.data.toList.length = s.size := Array.length_toList
  refine ⟨by rw [List.length_map]; have := splitL_len c s.data.toList []; omega, fun p hp => ?_⟩
  obtain ⟨l, hl, rfl⟩ := List.mem_map.1 hp
  have := splitL_size c s.data.toList [] l hl
  show l.toArray.size ≤ _
  rw [List.size_toArray]
  simp at this
  omega
theorem fwords_f (s : ByteArray) (hs : s.size ≤ 8796093022000) (k : Nat) (hk : s.size + 1 < k) : text_Words.f k s = some (wordsP s) := by
  unfold text_Words.f wordsP
  by_cases h : s.data.toList = []
  · rw [if_pos (by rw [ByteArray.toList_eq]; exact h), if_pos h]
  · have hlen : s.data.toList.length = s.size := Array.length_toList
    have h32 : (32 : Int) = (((32 : UInt8).toNat : Nat) : Int) := rfl
    have hok := parts_ok s 32 hs
    have hl := splitL_len 32 s.data.toList []
    rw [if_neg (by rw [ByteArray.toList_eq]; exact h), if_neg h, h32, parted_f s 32 hs k (by omega), Option.bind_some]
    have := words_loop ((splitL 32 s.data.toList []).map mkB) hok.1 (fun p hp => by have := hok.2 p hp; omega) ((splitL 32 s.data.toList []).map mkB).length k 0 [] (by omega) (by simp) (by rw [List.length_map]; omega)
    rw [show ((0 : Nat) : Int) = 0 from rfl, List.drop_zero] at this
    exact this

theorem rwords_loop (s : ByteArray) (hs : s.size ≤ 8796093022000) (hne : s.data.toList ≠ []) : ∀ (d k a i : Nat) (acc : List ByteArray), d + i = s.size → a ≤ i → acc.length ≤ i → 200 + 2 * s.size + 4 * d ≤ k →
    annalsref4_Words.l0 k s acc (a : Int) (i : Int) = some (unescAll acc ((splitL 32 (s.data.toList.drop i) ((s.data.toList.drop a).take (i - a))).map mkB)) := by
  have hlen : s.data.toList.length = s.size := Array.length_toList
  have hsne : (s.toList != ([] : List UInt8)) = true := by rw [ByteArray.toList_eq]; simpa using hne
  intro d
  induction d with
  | zero =>
    intro k a i acc hd ha hacc hk
    obtain ⟨k, rfl⟩ : ∃ m, k = m + 5 := ⟨k - 5, by omega⟩
    obtain rfl : i = s.size := by omega
    have hw : Hid (wrap64 ((s.size : Int) + 1) = ((s.size + 1 : Nat) : Int)) := wrap_nat s.size 1 (by omega)
    have hsz : (mkB ((s.data.toList.drop a).take (s.size - a))).size ≤ s.size := by
      show (List.toArray _).size ≤ _
      rw [List.size_toArray, List.length_take]; omega
    rw [annalsref4_Words.l0, if_pos (by omega), hsne, annalsref4_Words.j1, if_pos rfl, if_neg (by omega), annalsref4_Words.j2, if_neg (by decide), if_pos (by omega), if_pos (by omega), if_pos (by omega)]
    simp only [Int.toNat_natCast]
    rw [extract_mk s a s.size ha (Nat.le_refl _), runesc_f _ (by omega) (k + 2) (by omega), Option.bind_some, List.drop_eq_nil_of_le (by omega : s.data.toList.length ≤ s.size)]
    simp only [splitL, List.map_cons, List.map_nil, unescAll]
    generalize mkB ((s.data.toList.drop a).take (s.size - a)) = p at hsz ⊢
    by_cases h0 : (unesc p).2 = 0
    · rw [if_pos h0, if_pos (by omega), hw.out, annalsref4_Words.l0, if_neg (by omega), annalsref4_Words.j1, if_neg (by decide), if_pos h0]
    · rw [if_neg h0, if_neg h0]
  | succ d ih =>
    intro k a i acc hd ha hacc hk
    obtain ⟨k, rfl⟩ : ∃ m, k = m + 3 := ⟨k - 3, by omega⟩
    have hb := bt_nat s i (by omega)
    have hw : Hid (wrap64 ((i : Int) + 1) = ((i + 1 : Nat) : Int)) := wrap_nat i 1 (by omega)
    have hdr : s.data.toList.drop i = s.data.toList[i]'(by omega) :: s.data.toList.drop (i + 1) := List.drop_eq_getElem_cons (by omega)
    have hcur := cur_next s.data.toList a i ha (by omega)
    rw [annalsref4_Words.l0, if_pos (by omega), hsne, annalsref4_Words.j1, if_pos rfl, if_pos (by omega), if_pos (by omega), hb, hdr]
    generalize s.data.toList[i]'(by omega) = x at hb hdr hcur
    by_cases hx : x = 32
    · have hsz : (mkB ((s.data.toList.drop a).take (i - a))).size ≤ s.size := by
        show (List.toArray _).size ≤ _
        rw [List.size_toArray, List.length_take]; omega
      have hbx : (((x.toNat : Nat) : Int) != 32) = false := by rw [hx]; rfl
      rw [hbx, annalsref4_Words.j2, if_neg (by decide), if_pos (by omega), if_pos (by omega), if_pos (by omega)]
      simp only [Int.toNat_natCast]
      rw [extract_mk s a i ha (by omega), runesc_f _ (by omega) k (by omega), Option.bind_some]
      conv => rhs; rw [splitL, if_pos hx]
      simp only [List.map_cons]
      have hg := fun acc' h => ih k (i + 1) (i + 1) acc' (by omega) (Nat.le_refl _) h (by omega)
      generalize mkB ((s.data.toList.drop a).take (i - a)) = p at hsz
      conv => rhs; rw [unescAll]
      by_cases h0 : (unesc p).2 = 0
      · rw [if_pos h0, if_pos (by omega), hw.out, hg _ (by simp; omega), if_pos h0]
        simp
      · rw [if_neg h0, if_neg h0]
    · have hbx : (((x.toNat : Nat) : Int) != 32) = true := by
        simp only [bne_iff_ne, ne_eq]
        exact fun e => hx (UInt8.toNat_inj.1 (by have : (32 : UInt8).toNat = 32 := rfl; omega))
      have hg := ih k a (i + 1) acc (by omega) (by omega) (by omega) (by omega)
      rw [hbx, annalsref4_Words.j2, if_pos rfl, hw.out, hg, hcur]
      conv => rhs; rw [splitL, if_neg hx]
theorem rwords_f (s : ByteArray) (hs : s.size ≤ 8796093022000) (k : Nat) (hk : 200 + 6 * s.size ≤ k) : annalsref4_Words.f k s = some (wordsP s) := by
  unfold annalsref4_Words.f wordsP
  by_cases h : s.data.toList = []
  · obtain ⟨k, rfl⟩ : ∃ m, k = m + 2 := ⟨k - 2, by omega⟩
    have hb : (s.toList != ([] : List UInt8)) = false := by rw [ByteArray.toList_eq, h]; rfl
    rw [annalsref4_Words.l0, if_pos (by omega), hb, annalsref4_Words.j1, if_neg (by decide), if_pos h]
  · have := rwords_loop s hs h s.size k 0 0 [] (by omega) (Nat.le_refl _) (by simp) (by omega)
    rw [if_neg h]
    simpa using this

theorem rlines_loop (s : ByteArray) (hs : s.size ≤ 8796093022000) : ∀ (d k a i : Nat) (acc : List ByteArray), d + i = s.size → a ≤ i → acc.length ≤ i → d < k →
    annalsref30_lines.l0 k s acc (a : Int) (i : Int) = some (acc ++ (lineS (s.data.toList.drop i) ((s.data.toList.drop a).take (i - a))).map mkB) := by
  have hlen : s.data.toList.length = s.size := Array.length_toList
  intro d
  induction d with
  | zero =>
    intro k a i acc hd ha hacc hk
    obtain ⟨k, rfl⟩ : ∃ m, k = m + 1 := ⟨k - 1, by omega⟩
    obtain rfl : i = s.size := by omega
    rw [annalsref30_lines.l0, if_neg (by omega), List.drop_eq_nil_of_le (by omega : s.data.toList.length ≤ s.size)]
    have hcl : ((s.data.toList.drop a).take (s.size - a)).length = s.size - a := by rw [List.length_take, List.length_drop]; omega
    by_cases h : a < s.size
    · have hne : (s.data.toList.drop a).take (s.size - a) ≠ [] := fun e => by rw [e] at hcl; simp at hcl; omega
      rw [if_pos (by omega), if_pos (by omega), if_pos (by omega), if_pos (by omega)]
      simp only [Int.toNat_natCast]
      rw [extract_mk s a s.size ha (Nat.le_refl _), lineS, if_neg hne]
      rfl
    · have he : (s.data.toList.drop a).take (s.size - a) = [] := List.eq_nil_of_length_eq_zero (by omega)
      rw [if_neg (by omega), he, lineS, if_pos rfl]
      simp
  | succ d ih =>
    intro k a i acc hd ha hacc hk
    obtain ⟨k, rfl⟩ : ∃ m, k = m + 1 := ⟨k - 1, by omega⟩
    have hb := bt_nat s i (by omega)
    have hw : Hid (wrap64 ((i : Int) + 1) = ((i + 1 : Nat) : Int)) := wrap_nat i 1 (by omega)
    have hdr : s.data.toList.drop i = s.data.toList[i]'(by omega) :: s.data.toList.drop (i + 1) := List.drop_eq_getElem_cons (by omega)
    have hcur := cur_next s.data.toList a i ha (by omega)
    rw [annalsref30_lines.l0, if_pos (by omega), if_pos (by omega), hb, hdr]
    generalize s.data.toList[i]'(by omega) = x at hb hdr hcur
    by_cases hx : x = 10
    · have hg := ih k (i + 1) (i + 1) (acc ++ [mkB ((s.data.toList.drop a).take (i - a))]) (by omega) (Nat.le_refl _) (by simp; omega) (by omega)
      rw [if_pos (by rw [hx]; rfl), if_pos (by omega), if_pos (by omega), if_pos (by omega), if_pos (by omega), hw.out]
      simp only [Int.toNat_natCast]
      rw [extract_mk s a i ha (by omega), hg]
      conv => rhs; rw [lineS, if_pos hx]
      simp
    · have hg := ih k a (i + 1) acc (by omega) (by omega) (by omega) (by omega)
      rw [if_neg (fun e => hx (UInt8.toNat_inj.1 (by have : (10 : UInt8).toNat = 10 := rfl; omega))), hw.out, hg, hcur]
      conv => rhs; rw [lineS, if_neg hx]
/-- A text's lines. -/
def linesP (s : ByteArray) : List ByteArray := (lineS s.data.toList []).map mkB
theorem rlines_f (s : ByteArray) (hs : s.size ≤ 8796093022000) (k : Nat) (hk : s.size < k) : annalsref30_lines.f k s = some (linesP s) := by
  have := rlines_loop s hs s.size k 0 0 [] (by omega) (Nat.le_refl _) (by simp) hk
  unfold annalsref30_lines.f
  simpa [linesP] using this
theorem linesP_ok (s : ByteArray) : (linesP s).length ≤ s.size + 1 ∧ ∀ p ∈ linesP s, p.size ≤ s.size := by
  have hlen : s.data.toList.length = s.size := Array.length_toList
  refine ⟨by unfold linesP; rw [List.length_map]; have := lineS_len s.data.toList []; omega, fun p hp => ?_⟩
  obtain ⟨l, hl, rfl⟩ := List.mem_map.1 hp
  have := lineS_size s.data.toList [] l hl
  show l.toArray.size ≤ _
  rw [List.size_toArray]
  simp at this
  omega

end Go.Proofs.Ytnpmkaklkonofaa.Txt


/- Plain: the document's step is the program's step. -/
namespace Go.Proofs.Ytnpmkaklkonofaa.Txt
open Go.RowKit Go.Proofs.YtnpmkaklkonofaaW.PrintWords Go.Proofs.YtnpmkaklkonofaaW.PrintLast Go.Proofs.Ytnpmkaklkonofaa.Hand Go.Proofs.Ytnpmkaklkonofaa.Q

def wantsX (l : List UInt8) : List UInt8 := if l = [111] then [111, 111, 111, 111, 111, 111] else l
/-- What the document's row says is what the shape says. -/
structure RowOk (wants : List UInt8) (nn ss mo : Nat) (oo : Bool) : Prop where
  count : ∀ m : Nat, countedL wants (m : Int) = !(badL m (if oo = true then 6 else nn) ss mo)
  letter : ∀ m i : Nat, badL m (if oo = true then 6 else nn) ss mo = false → i < m → (i < cntL m (if oo = true then 6 else nn) ss mo ↔ ¬ (letterAt (wantsX wants) i = 115 ∨ letterAt (wantsX wants) i = 83))
theorem ok_o : RowOk [111] 0 0 0 true := by
  refine ⟨fun m => ?_, fun m i hb hi => ?_⟩
  · rw [Bool.eq_iff_iff]; simp [countedL, badL]; omega
  · have hm : m = 6 := by simp [badL] at hb; omega
    subst hm
    have h : i = 0 ∨ i = 1 ∨ i = 2 ∨ i = 3 ∨ i = 4 ∨ i = 5 := by omega
    rcases h with rfl | rfl | rfl | rfl | rfl | rfl <;> decide
theorem ok_0 : RowOk [] 0 0 0 false := by
  refine ⟨fun m => ?_, fun m i hb hi => ?_⟩
  · rw [Bool.eq_iff_iff]; simp [countedL, badL]
  · have : m = 0 := by simp [badL] at hb; omega
    omega
theorem ok_S : RowOk [83] 0 0 2 false := by
  refine ⟨fun m => ?_, fun m i hb hi => ?_⟩
  · rw [Bool.eq_iff_iff]; simp [countedL, badL]
  · refine ⟨fun h => absurd h (by unfold cntL; simp), fun h => absurd ?_ h⟩
    unfold letterAt
    rw [Nat.min_eq_right (by simp [wantsX])]
    decide
theorem ok_n : RowOk [110] 1 0 0 false := by
  refine ⟨fun m => ?_, fun m i hb hi => ?_⟩
  · rw [Bool.eq_iff_iff]; simp [countedL, badL]; omega
  · have hm : m = 1 := by simp [badL] at hb; omega
    subst hm
    have h : i = 0 := by omega
    subst h; decide
theorem ok_nn : RowOk [110, 110] 2 0 0 false := by
  refine ⟨fun m => ?_, fun m i hb hi => ?_⟩
  · rw [Bool.eq_iff_iff]; simp [countedL, badL]; omega
  · have hm : m = 2 := by simp [badL] at hb; omega
    subst hm
    have h : i = 0 ∨ i = 1 := by omega
    rcases h with rfl | rfl <;> decide
theorem ok_nnnnN : RowOk [110, 110, 110, 110, 78] 4 0 1 false := by
  refine ⟨fun m => ?_, fun m i hb hi => ?_⟩
  · rw [Bool.eq_iff_iff]; simp [countedL, badL]; omega
  · refine ⟨fun _ => ?_, fun _ => ?_⟩
    · have h4 : i = 0 ∨ i = 1 ∨ i = 2 ∨ i = 3 ∨ 4 ≤ i := by omega
      rcases h4 with rfl | rfl | rfl | rfl | h
      · decide
      · decide
      · decide
      · decide
      · unfold letterAt
        rw [Nat.min_eq_right (by simpa [wantsX] using h)]
        decide
    · unfold cntL; simp; omega
theorem ok_s : RowOk [115] 0 1 0 false := by
  refine ⟨fun m => ?_, fun m i hb hi => ?_⟩
  · rw [Bool.eq_iff_iff]; simp [countedL, badL]; omega
  · have hm : m = 1 := by simp [badL] at hb; omega
    subst hm
    have h : i = 0 := by omega
    subst h; decide
theorem ok_nss : RowOk [110, 115, 115] 1 2 0 false := by
  refine ⟨fun m => ?_, fun m i hb hi => ?_⟩
  · rw [Bool.eq_iff_iff]; simp [countedL, badL]; omega
  · have hm : m = 3 := by simp [badL] at hb; omega
    subst hm
    have h : i = 0 ∨ i = 1 ∨ i = 2 := by omega
    rcases h with rfl | rfl | rfl <;> decide
theorem ok_ns : RowOk [110, 115] 1 1 0 false := by
  refine ⟨fun m => ?_, fun m i hb hi => ?_⟩
  · rw [Bool.eq_iff_iff]; simp [countedL, badL]; omega
  · have hm : m = 2 := by simp [badL] at hb; omega
    subst hm
    have h : i = 0 ∨ i = 1 := by omega
    rcases h with rfl | rfl <;> decide

theorem row_ok (x : Nat) (h1 : 1 ≤ x) (h2 : x < 35) : ∃ (nn ss mo : Nat) (oo : Bool), annalsref30_row.f (x : Int) = some (mkB (shapeT.getD x ([], [])).1, (nn : Int), (ss : Int), (mo : Int), oo) ∧ (nn ≤ 10 ∧ ss ≤ 10 ∧ mo ≤ 2) ∧ (oo = true → nn = 0 ∧ ss = 0 ∧ mo = 0) ∧ RowOk (shapeT.getD x ([], [])).2 nn ss mo oo := by
  match x, h1, h2 with
  | 1, _, _ => exact ⟨0, 0, 0, true, by kernel_rfl, by decide, by decide, ok_o⟩
  | 2, _, _ => exact ⟨0, 0, 0, false, by kernel_rfl, by decide, by decide, ok_0⟩
  | 3, _, _ => exact ⟨0, 0, 2, false, by kernel_rfl, by decide, by decide, ok_S⟩
  | 4, _, _ => exact ⟨0, 0, 0, false, by kernel_rfl, by decide, by decide, ok_0⟩
  | 5, _, _ => exact ⟨1, 0, 0, false, by kernel_rfl, by decide, by decide, ok_n⟩
  | 6, _, _ => exact ⟨2, 0, 0, false, by kernel_rfl, by decide, by decide, ok_nn⟩
  | 7, _, _ => exact ⟨1, 0, 0, false, by kernel_rfl, by decide, by decide, ok_n⟩
  | 8, _, _ => exact ⟨4, 0, 1, false, by kernel_rfl, by decide, by decide, ok_nnnnN⟩
  | 9, _, _ => exact ⟨0, 1, 0, false, by kernel_rfl, by decide, by decide, ok_s⟩
  | 10, _, _ => exact ⟨0, 0, 0, false, by kernel_rfl, by decide, by decide, ok_0⟩
  | 11, _, _ => exact ⟨0, 0, 2, false, by kernel_rfl, by decide, by decide, ok_S⟩
  | 12, _, _ => exact ⟨0, 0, 0, true, by kernel_rfl, by decide, by decide, ok_o⟩
  | 13, _, _ => exact ⟨1, 0, 0, false, by kernel_rfl, by decide, by decide, ok_n⟩
  | 14, _, _ => exact ⟨0, 0, 0, false, by kernel_rfl, by decide, by decide, ok_0⟩
  | 15, _, _ => exact ⟨0, 0, 0, false, by kernel_rfl, by decide, by decide, ok_0⟩
  | 16, _, _ => exact ⟨0, 0, 0, false, by kernel_rfl, by decide, by decide, ok_0⟩
  | 17, _, _ => exact ⟨1, 0, 0, false, by kernel_rfl, by decide, by decide, ok_n⟩
  | 18, _, _ => exact ⟨0, 1, 0, false, by kernel_rfl, by decide, by decide, ok_s⟩
  | 19, _, _ => exact ⟨0, 0, 0, false, by kernel_rfl, by decide, by decide, ok_0⟩
  | 20, _, _ => exact ⟨0, 0, 0, false, by kernel_rfl, by decide, by decide, ok_0⟩
  | 21, _, _ => exact ⟨1, 2, 0, false, by kernel_rfl, by decide, by decide, ok_nss⟩
  | 22, _, _ => exact ⟨2, 0, 0, false, by kernel_rfl, by decide, by decide, ok_nn⟩
  | 23, _, _ => exact ⟨0, 1, 0, false, by kernel_rfl, by decide, by decide, ok_s⟩
  | 24, _, _ => exact ⟨1, 0, 0, false, by kernel_rfl, by decide, by decide, ok_n⟩
  | 25, _, _ => exact ⟨0, 0, 0, false, by kernel_rfl, by decide, by decide, ok_0⟩
  | 26, _, _ => exact ⟨0, 0, 0, false, by kernel_rfl, by decide, by decide, ok_0⟩
  | 27, _, _ => exact ⟨0, 0, 0, false, by kernel_rfl, by decide, by decide, ok_0⟩
  | 28, _, _ => exact ⟨0, 0, 0, false, by kernel_rfl, by decide, by decide, ok_0⟩
  | 29, _, _ => exact ⟨0, 0, 0, false, by kernel_rfl, by decide, by decide, ok_0⟩
  | 30, _, _ => exact ⟨1, 2, 0, false, by kernel_rfl, by decide, by decide, ok_nss⟩
  | 31, _, _ => exact ⟨0, 0, 0, false, by kernel_rfl, by decide, by decide, ok_0⟩
  | 32, _, _ => exact ⟨1, 0, 0, false, by kernel_rfl, by decide, by decide, ok_n⟩
  | 33, _, _ => exact ⟨1, 0, 0, false, by kernel_rfl, by decide, by decide, ok_n⟩
  | 34, _, _ => exact ⟨1, 1, 0, false, by kernel_rfl, by decide, by decide, ok_ns⟩
  | n + 35, _, h => exact absurd h (by omega)

theorem row_oo (x : Nat) (h1 : 1 ≤ x) (h2 : x < 35) {wd : ByteArray} {nn ss mo : Int} {oo : Bool} (h : annalsref30_row.f (x : Int) = some (wd, nn, ss, mo, oo)) : oo = decide (111 ∈ wantsOf x) := by
  have key : ∀ m : Fin 35, 1 ≤ m.val → (annalsref30_row.f (m.val : Int)).map (fun r => r.2.2.2.2) = some (decide (111 ∈ wantsOf m.val)) := by decide +kernel
  have := key ⟨x, h2⟩ h1
  simp only [h, Option.map_some, Option.some.injEq] at this
  exact this

theorem kind_loop (s : ByteArray) : ∀ (n k x : Nat), n + x = 35 → 1 ≤ x → n < k → annalsref30_kindOf.l0 k s (x : Int) = some (namedFrom s.data.toList n x : Int) := by
  intro n
  induction n with
  | zero =>
    intro k x hn hx hk
    obtain ⟨k, rfl⟩ : ∃ m, k = m + 1 := ⟨k - 1, by omega⟩
    rw [annalsref30_kindOf.l0, if_neg (by omega)]; rfl
  | succ n ih =>
    intro k x hn hx hk
    obtain ⟨k, rfl⟩ : ∃ m, k = m + 1 := ⟨k - 1, by omega⟩
    obtain ⟨nn, ss, mo, oo, hrow, -⟩ := row_ok x hx (by omega)
    have hw : Hid (wrap64 ((x : Int) + 1) = ((x + 1 : Nat) : Int)) := wrap_nat x 1 (by omega)
    rw [annalsref30_kindOf.l0, if_pos (by omega), hrow, Option.bind_some, hw.out, namedFrom]
    by_cases he : (shapeT.getD x ([], [])).1 = s.data.toList
    · rw [if_pos (by rw [ByteArray.toList_eq, ByteArray.toList_eq]; exact he), if_pos ⟨by omega, he⟩]
    · rw [if_neg (fun h => he (by rw [ByteArray.toList_eq, ByteArray.toList_eq] at h; exact h)), if_neg (fun h => he h.2)]
      exact ih k (x + 1) (by omega) (by omega) (by omega)
theorem kind_f (s : ByteArray) (k : Nat) (hk : 40 ≤ k) : annalsref30_kindOf.f k s = some (namedL s.data.toList : Int) := by
  have := kind_loop s 34 k 1 rfl (by omega) (by omega)
  unfold annalsref30_kindOf.f namedL
  rw [namedFrom, if_neg (fun h => absurd h.1 (by omega))]
  exact this

/-- Words as numbers; the first refusal. -/
def numsAll : List Int → List ByteArray → List Int × Int
  | acc, [] => (acc, 0)
  | acc, w :: r => if (unDec w).2 = 0 then numsAll (acc ++ [(unDec w).1]) r else ([], 42)
theorem unDec_err (s : ByteArray) : (unDec s).2 = 0 ∨ (unDec s).2 = 42 := by
  unfold unDec
  split
  · exact .inr rfl
  · split
    · exact .inl rfl
    · exact .inr rfl
theorem numsAll_len : ∀ acc l, (numsAll acc l).2 = 0 → (numsAll acc l).1.length = acc.length + l.length
  | acc, [], _ => by simp [numsAll]
  | acc, w :: r, h => by
    unfold numsAll at h ⊢
    split at h
    · rename_i h0
      rw [if_pos h0, numsAll_len _ r h]; simp; omega
    · cases h
theorem numsAll_err : ∀ acc l, (numsAll acc l).2 = 0 ∨ (numsAll acc l).2 = 42
  | acc, [] => .inl rfl
  | acc, w :: r => by
    unfold numsAll
    split
    · exact numsAll_err _ r
    · exact .inr rfl
theorem nums_loop (l : List ByteArray) (hl : l.length ≤ 1073741824) : ∀ (d k i : Nat) (acc : List Int), d + i = l.length → acc.length ≤ i → 100 + d < k → annalsref30_numbersOf.l0 k l acc (i : Int) = some (numsAll acc (l.drop i)) := by
  intro d
  induction d with
  | zero =>
    intro k i acc hd ha hk
    obtain ⟨k, rfl⟩ : ∃ m, k = m + 1 := ⟨k - 1, by omega⟩
    rw [annalsref30_numbersOf.l0, if_neg (by omega), List.drop_eq_nil_of_le (by omega)]; rfl
  | succ d ih =>
    intro k i acc hd ha hk
    obtain ⟨k, rfl⟩ : ∃ m, k = m + 1 := ⟨k - 1, by omega⟩
    have hw : Hid (wrap64 ((i : Int) + 1) = ((i + 1 : Nat) : Int)) := wrap_nat i 1 (by omega)
    have hdr : l.drop i = l[i]'(by omega) :: l.drop (i + 1) := List.drop_eq_getElem_cons (by omega)
    have hrd : rdOf ByteArray.empty l (i : Int) = l[i]'(by omega) := by
      unfold rdOf
      rw [Int.toNat_natCast, List.getD_eq_getElem?_getD, List.getElem?_eq_getElem (by omega)]; rfl
    rw [annalsref30_numbersOf.l0, if_pos (by omega), if_pos (by omega), hrd, hdr]
    generalize l[i]'(by omega) = p at hrd hdr
    rw [rundec_f p k (by omega), Option.bind_some]
    conv => rhs; rw [numsAll]
    by_cases h0 : (unDec p).2 = 0
    · rw [if_pos h0, if_pos (by omega), hw.out, if_pos h0]
      exact ih k (i + 1) _ (by omega) (by simp; omega) (by omega)
    · rw [if_neg h0, if_neg h0]
theorem nums_f (l : List ByteArray) (hl : l.length ≤ 1073741824) (k : Nat) (hk : 100 + l.length < k) : annalsref30_numbersOf.f k l = some (numsAll [] l) := by
  have := nums_loop l hl l.length k 0 [] (by omega) (by simp) hk
  unfold annalsref30_numbersOf.f
  simpa using this

/-- Texts from word i on. -/
theorem eachS_texts (wants : List UInt8) : ∀ (l : List ByteArray) (i : Nat) (x : StpS), (∀ j, i ≤ j → j < i + l.length → letterAt wants j = 115 ∨ letterAt wants j = 83) → eachS wants i l x = (⟨x.N, x.S ++ l, x.O⟩, 0)
  | [], i, x, _ => by simp [eachS]
  | w :: r, i, x, h => by
    have h0 := h i (Nat.le_refl _) (by simp)
    have e : takeS (letterAt wants i) w x = (⟨x.N, x.S ++ [w], x.O⟩, 0) := if_pos h0
    have ih := eachS_texts wants r (i + 1) ⟨x.N, x.S ++ [w], x.O⟩ (fun j h1 h2 => h j (by omega) (by simp at h2 ⊢; omega))
    unfold eachS
    rw [e, if_pos rfl, ih]
    simp
/-- Numbers from word i on, then the rest. -/
theorem eachS_nums (wants : List UInt8) (oo : Bool) : ∀ (l l2 : List ByteArray) (i : Nat) (x : StpS) (acc : List Int), (∀ j, i ≤ j → j < i + l.length → ¬ (letterAt wants j = 115 ∨ letterAt wants j = 83) ∧ (oo = true ↔ letterAt wants j = 111)) → acc = (if oo = true then x.O else x.N) →
    ((numsAll acc l).2 = 0 → eachS wants i (l ++ l2) x = eachS wants (i + l.length) l2 ⟨if oo = true then x.N else (numsAll acc l).1, x.S, if oo = true then (numsAll acc l).1 else x.O⟩) ∧ ((numsAll acc l).2 ≠ 0 → (eachS wants i (l ++ l2) x).2 = 42)
  | [], l2, i, x, acc, _, ha => by
    refine ⟨fun _ => ?_, fun h => absurd rfl h⟩
    cases oo <;> simp_all [numsAll]
  | w :: r, l2, i, x, acc, h, ha => by
    obtain ⟨h0, hO⟩ := h i (Nat.le_refl _) (by simp)
    have e : takeS (letterAt wants i) w x = (⟨if oo = true then x.N else x.N ++ [(unDec w).1], x.S, if oo = true then x.O ++ [(unDec w).1] else x.O⟩, (unDec w).2) := by
      unfold takeS
      rw [if_neg h0]
      cases oo with
      | true => rw [if_pos (hO.1 rfl)]; rfl
      | false => rw [if_neg (fun h => by have := hO.2 h; cases this)]; rfl
    have ih := eachS_nums wants oo r l2 (i + 1) ⟨if oo = true then x.N else x.N ++ [(unDec w).1], x.S, if oo = true then x.O ++ [(unDec w).1] else x.O⟩ (acc ++ [(unDec w).1]) (fun j h1 h2 => h j (by omega) (by simp at h2 ⊢; omega)) (by cases oo <;> simp [ha])
    unfold numsAll
    rw [List.cons_append, eachS, e]
    by_cases hu : (unDec w).2 = 0
    · rw [if_pos hu]
      simp only [hu, if_true]
      refine ⟨fun hh => ?_, fun hh => ih.2 hh⟩
      rw [ih.1 hh]
      cases oo <;> simp [Nat.add_assoc, Nat.add_comm 1]
    · rw [if_neg hu]
      simp only
      rw [if_neg hu]
      exact ⟨fun hh => absurd hh (by decide), fun _ => (unDec_err w).resolve_left hu⟩

theorem take_drop1 {α : Type} (l : List α) (p : Nat) : (l.take (1 + p)).drop 1 = (l.drop 1).take p := by
  rw [List.drop_take, show 1 + p - 1 = p by omega]

/-- The document's step and the program's. -/
theorem stepP_eq (ws : List ByteArray) (hpos : 0 < ws.length) (kd nn ss mo : Nat) (oo : Bool) (hkd : namedL (ws.getD 0 ByteArray.empty).data.toList = kd) (hk0 : kd ≠ 0) (hk : kd < 35) (hok : RowOk (shapeT.getD kd ([], [])).2 nn ss mo oo) (hoo : oo = decide (111 ∈ wantsOf kd)) :
    stepP ws = rstepP ws kd nn ss mo oo (numsAll [] ((ws.take (1 + cntL (ws.length - 1) (if oo = true then 6 else nn) ss mo)).drop 1)).1 (numsAll [] ((ws.take (1 + cntL (ws.length - 1) (if oo = true then 6 else nn) ss mo)).drop 1)).2 := by
  have hwX : wantsX (shapeT.getD kd ([], [])).2 = wantsOf kd := rfl
  have hcnt := hok.count (ws.length - 1)
  have hlet := hok.letter (ws.length - 1)
  rw [hwX] at hlet
  generalize hn6 : (if oo = true then 6 else nn) = n6 at *
  rw [show (((ws.length - 1 : Nat) : Nat) : Int) = (ws.length : Int) - 1 by omega] at hcnt
  unfold rstepP
  rw [hn6]
  cases hb : badL (ws.length - 1) n6 ss mo with
  | true =>
    rw [if_pos rfl]
    unfold stepP
    rw [hkd]
    exact if_pos (.inr (.inr (by rw [hcnt, hb]; rfl)))
  | false =>
    rw [if_neg (by decide)]
    have hne : ¬ (ws = [] ∨ kd = 0 ∨ countedL (shapeT.getD kd ([], [])).2 ((ws.length : Int) - 1) = false) := by
      rintro (h | h | h)
      · rw [h] at hpos; simp at hpos
      · exact hk0 h
      · rw [hcnt, hb] at h; cases h
    unfold stepP
    rw [hkd, if_neg hne]
    have hp : cntL (ws.length - 1) n6 ss mo ≤ ws.length - 1 := by
      simp only [badL, Bool.or_eq_false_iff, decide_eq_false_iff_not] at hb
      unfold cntL
      split <;> omega
    have hlet := fun i => hlet i hb
    generalize cntL (ws.length - 1) n6 ss mo = p at *
    have hsplit : ws.drop 1 = (ws.drop 1).take p ++ (ws.drop 1).drop p := (List.take_append_drop _ _).symm
    have hrl : (ws.drop 1).length = ws.length - 1 := by rw [List.length_drop]
    have hll : ((ws.drop 1).take p).length = p := by rw [List.length_take]; omega
    rw [take_drop1]
    have hall : ∀ j, j < ws.length - 1 → 0 < (wantsOf kd).length := fun j hj => by
      rcases Nat.eq_zero_or_pos (wantsOf kd).length with h | h
      · exfalso
        have hc : countedL (shapeT.getD kd ([], [])).2 ((ws.length : Int) - 1) = true := by rw [hcnt, hb]; rfl
        have := wants_some (k := kd) (n := ws.length - 1) (by rw [show (((ws.length - 1 : Nat) : Nat) : Int) = (ws.length : Int) - 1 by omega]; exact hc) (by omega)
        omega
      · exact h
    have E := eachS_nums (wantsOf kd) oo ((ws.drop 1).take p) ((ws.drop 1).drop p) 0 ⟨[], [], []⟩ [] (fun j _ hj => by
      rw [hll] at hj
      refine ⟨(hlet j (by omega)).1 (by omega), ?_⟩
      rw [hoo]
      exact wants_o kd hk _ (letterAt_mem (hall j (by omega)) j)) (by cases oo <;> rfl)
    rw [← hsplit, hll] at E
    by_cases he : (numsAll [] ((ws.drop 1).take p)).2 = 0
    · have e1 := E.1 he
      rw [eachS_texts (wantsOf kd) ((ws.drop 1).drop p) (0 + p) _ (fun j h1 h2 => by
        rw [List.length_drop, hrl] at h2
        have := (hlet j (by omega))
        by_cases h : letterAt (wantsOf kd) j = 115 ∨ letterAt (wantsOf kd) j = 83
        · exact h
        · have := this.2 h; omega)] at e1
      rw [e1, if_neg (fun h => h rfl), if_neg (show ¬ ((numsAll [] ((ws.drop 1).take p)).2 ≠ 0) from fun h => h he), List.drop_drop]
      cases oo <;> simp [optsL, Nat.add_comm]
    · have e2 := E.2 he
      rw [e2, if_pos (by decide), if_pos he, (numsAll_err _ _).resolve_left he]

theorem rstep_all (A : Option Addr) (c : Nat) (ws : List ByteArray) (w : World) (hr : Kd.C Kd.string w A ws.length ws) (hc : ws.length ≤ c) (hpos : 0 < ws.length) (hl : ws.length ≤ 1073741823) :
    Calls Try.prog 47 #[.slice A ws.length c] w (StepAns (stepP ws) w) := by
  have hk := kind_f (ws.getD 0 ByteArray.empty) (ws.length + 200) (by omega)
  have hk35 := namedL_lt (ws.getD 0 ByteArray.empty).data.toList
  obtain ⟨kd, hkd⟩ : ∃ kd, namedL (ws.getD 0 ByteArray.empty).data.toList = kd := ⟨_, rfl⟩
  rw [hkd] at hk hk35
  by_cases hk0 : kd = 0
  · have e : stepP ws = (z52, 300) := by unfold stepP; rw [hkd]; exact if_pos (.inr (.inl hk0))
    rw [e]
    rw [hk0] at hk
    exact rstep_none (ws.length + 200) A c ws w hr hc hpos hk
  · obtain ⟨nn, ss, mo, oo, hrow, hb, hz, hok⟩ := row_ok kd (by omega) hk35
    have hoo : oo = decide (111 ∈ wantsOf kd) := row_oo kd (by omega) hk35 hrow
    rw [stepP_eq ws hpos kd nn ss mo oo hkd hk0 hk35 hok hoo]
    have hnum : ∀ p, p ≤ ws.length → annalsref30_numbersOf.f (ws.length + 200) ((ws.take (1 + p)).drop 1) = some ((numsAll [] ((ws.take (1 + p)).drop 1)).1, (numsAll [] ((ws.take (1 + p)).drop 1)).2) := fun p hp => by
      have hlen : ((ws.take (1 + p)).drop 1).length ≤ ws.length := by rw [List.length_drop, List.length_take]; omega
      exact nums_f _ (by omega) _ (by omega)
    cases oo with
    | false =>
      refine rstepN_calls (ws.length + 200) A c ws w hr hc hpos (by omega) kd nn ss mo _ _ _ hk hk0 hrow hb (fun hbad => ?_)
      have hp : cntL (ws.length - 1) nn ss mo ≤ ws.length - 1 := by
        simp only [badL, Bool.or_eq_false_iff, decide_eq_false_iff_not] at hbad
        unfold cntL
        split <;> omega
      refine ⟨hnum _ (by omega), fun he => ?_⟩
      have := numsAll_len _ _ he
      simp only [Bool.false_eq_true, if_false] at this ⊢
      rw [this, take_drop1, List.length_take, List.length_drop]
      simp; omega
    | true =>
      obtain ⟨rfl, rfl, rfl⟩ := hz rfl
      refine rstepO_calls (ws.length + 200) A c ws w hr hc hpos (by omega) kd _ _ _ hk hk0 hrow (fun h7 => ?_)
      have hcn : cntL (ws.length - 1) (if true = true then 6 else 0) 0 0 = 6 := rfl
      rw [hcn]
      refine ⟨hnum 6 (by omega), fun he => ?_⟩
      have := numsAll_len _ _ he
      rw [this, take_drop1, List.length_take, List.length_drop, h7]; rfl

end Go.Proofs.Ytnpmkaklkonofaa.Txt
