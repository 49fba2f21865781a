/- Plain: what the program reads: numbers, words, lines; with no word of the document. -/
import Derived.Test.YtnpmkaklkonofaaGStep
import Derived.Test.YtnpmkaklkonofaaGBase
import Derived.Test.YtnpmkaklkonofaaQx8
set_option linter.unusedVariables false
set_option linter.unusedSimpArgs false
namespace Go.Proofs.Ytnpmkaklkonofaa.Txt
open Go.RowKit Go.Proofs.YtnpmkaklkonofaaW.PrintWords Go.Proofs.YtnpmkaklkonofaaW.PrintLast Go.Proofs.Ytnpmkaklkonofaa.Hand Go.Proofs.Ytnpmkaklkonofaa.Q

theorem wrap64_eq {a b : Int} (h : (a - b) % 18446744073709551616 = 0) : wrap64 a = wrap64 b := by unfold wrap64; omega
theorem wrap64_self (a : Int) : (a - wrap64 a) % 18446744073709551616 = 0 := by unfold wrap64; omega
theorem wrap64_of {a : Int} (h1 : -9223372036854775808 ≤ a) (h2 : a ≤ 9223372036854775807) : wrap64 a = a := by unfold wrap64; omega
theorem wrap64_range (a : Int) : -9223372036854775808 ≤ wrap64 a ∧ wrap64 a ≤ 9223372036854775807 := by unfold wrap64; omega

/-- The number that digits say, without bounds. -/
def exFold (n : Int) (l : List UInt8) : Int := l.foldl (fun n c => 10 * n + ((c.toNat : Int) - 48)) n
theorem exFold_digs : ∀ v : Nat, exFold 0 (digs v) = v := by
  intro v
  induction v using Nat.strongRecOn with
  | _ v ih =>
    by_cases h : v < 10
    · rw [digs_lt h]
      simp only [exFold, List.foldl_cons, List.foldl_nil]
      rw [UInt8.toNat_ofNat_of_lt' (by show 48 + v < 256; omega)]
      omega
    · have := ih (v / 10) (by omega)
      rw [digs_ge (by omega)]
      unfold exFold at this ⊢
      rw [List.foldl_append, this]
      simp only [List.foldl_cons, List.foldl_nil]
      rw [UInt8.toNat_ofNat_of_lt' (by show 48 + v % 10 < 256; omega)]
      omega
theorem digs_digit : ∀ (v : Nat) (c : UInt8), c ∈ digs v → 48 ≤ c.toNat ∧ c.toNat ≤ 57 := by
  intro v
  induction v using Nat.strongRecOn with
  | _ v ih =>
    intro c hc
    by_cases h : v < 10
    · rw [digs_lt h] at hc
      rw [List.mem_singleton.1 hc, UInt8.toNat_ofNat_of_lt' (by show 48 + v < 256; omega)]
      omega
    · rw [digs_ge (by omega)] at hc
      rcases List.mem_append.1 hc with hc | hc
      · exact ih (v / 10) (by omega) c hc
      · rw [List.mem_singleton.1 hc, UInt8.toNat_ofNat_of_lt' (by show 48 + v % 10 < 256; omega)]
        omega

theorem undecStep_wrap (n m : Int) (c : UInt8) (h : (n - m) % 18446744073709551616 = 0) : (undecStep n c - (10 * m + ((c.toNat : Int) - 48))) % 18446744073709551616 = 0 := by
  unfold undecStep
  have h1 := wrap64_self (wrap64 (wrap64 (10 * n) + (c.toNat : Int)) - 48)
  have h2 := wrap64_self (wrap64 (10 * n) + (c.toNat : Int))
  have h3 := wrap64_self (10 * n)
  omega
theorem fold_wrap : ∀ (l : List UInt8) (n m : Int), (n - m) % 18446744073709551616 = 0 → (l.foldl undecStep n - exFold m l) % 18446744073709551616 = 0
  | [], n, m, h => h
  | c :: l, n, m, h => fold_wrap l (undecStep n c) (10 * m + ((c.toNat : Int) - 48)) (undecStep_wrap n m c h)

/-- What is written is read back by the program. -/
theorem undecV_dec (v : Int) (h1 : -9223372036854775808 ≤ v) (h2 : v ≤ 9223372036854775807) : undecV (decL v) = v := by
  unfold undecV decL
  have hf := fold_wrap (digs v.natAbs) 0 0 rfl
  rw [exFold_digs] at hf
  have hr := fold_range (digs v.natAbs) 0 (by omega) (by omega)
  by_cases hn : v < 0
  · rw [if_pos hn]
    simp only [List.cons_append, List.nil_append, List.headD_cons, if_true, List.drop_succ_cons, List.drop_zero]
    have := wrap64_self (-(digs v.natAbs).foldl undecStep 0)
    have hw := wrap64_range (-(digs v.natAbs).foldl undecStep 0)
    omega
  · rw [if_neg hn]
    simp only [List.nil_append]
    have hh : (digs v.natAbs).headD 0 ≠ 45 := by
      have hp := digs_pos v.natAbs
      match hd : digs v.natAbs, hp with
      | c :: r, _ =>
        have := digs_digit v.natAbs c (by rw [hd]; exact List.mem_cons_self)
        intro e
        rw [List.headD_cons] at e
        rw [e] at this
        have h45 : (45 : UInt8).toNat = 45 := rfl
        omega
    rw [if_neg hh]
    omega

/-- The document's sum: the digits alone, taken away. -/
def rundStep (n : Int) (c : UInt8) : Int := if 48 ≤ c.toNat ∧ c.toNat ≤ 57 then wrap64 (wrap64 (10 * n) - (((c.toNat : Int) - 48) % 256)) else n
def rundV (l : List UInt8) : Int := if l.headD 0 = 45 then l.foldl rundStep 0 else wrap64 (-(l.foldl rundStep 0))
theorem rund_range : ∀ (l : List UInt8) (n : Int), -9223372036854775808 ≤ n → n ≤ 9223372036854775807 → -9223372036854775808 ≤ l.foldl rundStep n ∧ l.foldl rundStep n ≤ 9223372036854775807
  | [], n, h1, h2 => ⟨h1, h2⟩
  | c :: l, n, h1, h2 => by
    rw [List.foldl_cons]
    unfold rundStep
    split
    · have := wrap64_range (wrap64 (10 * n) - (((c.toNat : Int) - 48) % 256))
      exact rund_range l _ this.1 this.2
    · exact rund_range l n h1 h2
theorem rund_wrap : ∀ (l : List UInt8) (n m : Int), (∀ c ∈ l, 48 ≤ c.toNat ∧ c.toNat ≤ 57) → (n + m) % 18446744073709551616 = 0 → (l.foldl rundStep n + exFold m l) % 18446744073709551616 = 0
  | [], n, m, _, h => h
  | c :: l, n, m, hc, h => by
    have hcd := hc c List.mem_cons_self
    have ih := rund_wrap l (rundStep n c) (10 * m + ((c.toNat : Int) - 48)) (fun x hx => hc x (List.mem_cons_of_mem _ hx)) (by
      unfold rundStep
      rw [if_pos hcd]
      have h1 := wrap64_self (wrap64 (10 * n) - (((c.toNat : Int) - 48) % 256))
      have h2 := wrap64_self (10 * n)
      omega)
    exact ih
theorem rundV_dec (v : Int) (h1 : -9223372036854775808 ≤ v) (h2 : v ≤ 9223372036854775807) : rundV (decL v) = v := by
  unfold rundV decL
  have hf := rund_wrap (digs v.natAbs) 0 0 (digs_digit v.natAbs) rfl
  rw [exFold_digs] at hf
  have hr := rund_range (digs v.natAbs) 0 (by omega) (by omega)
  by_cases hn : v < 0
  · rw [if_pos hn]
    simp only [List.cons_append, List.nil_append, List.headD_cons, if_true, List.foldl_cons]
    have e : rundStep 0 45 = 0 := rfl
    rw [e]
    omega
  · rw [if_neg hn]
    simp only [List.nil_append]
    have hh : (digs v.natAbs).headD 0 ≠ 45 := by
      have hp := digs_pos v.natAbs
      match hd : digs v.natAbs, hp with
      | c :: r, _ =>
        have := digs_digit v.natAbs c (by rw [hd]; exact List.mem_cons_self)
        intro e
        rw [List.headD_cons] at e
        rw [e] at this
        have h45 : (45 : UInt8).toNat = 45 := rfl
        omega
    rw [if_neg hh]
    have := wrap64_self (-(digs v.natAbs).foldl rundStep 0)
    have hw := wrap64_range (-(digs v.natAbs).foldl rundStep 0)
    omega

theorem undecV_range (l : List UInt8) : -9223372036854775808 ≤ undecV l ∧ undecV l ≤ 9223372036854775807 := by
  unfold undecV
  split
  · exact wrap64_range _
  · exact fold_range l 0 (by omega) (by omega)
theorem rundV_range (l : List UInt8) : -9223372036854775808 ≤ rundV l ∧ rundV l ≤ 9223372036854775807 := by
  unfold rundV
  split
  · exact rund_range l 0 (by omega) (by omega)
  · exact wrap64_range _

theorem decB_list {v : Int} {s : ByteArray} (h : decB v = s) : s.data.toList = decL v := by rw [← h]; rfl
theorem unDec_eq (s : ByteArray) (h : s.size ≤ 20) : unDec s = if decB (rundV s.data.toList) = s then (rundV s.data.toList, 0) else (0, 42) := by
  have hu := undecV_range s.data.toList
  have hr := rundV_range s.data.toList
  by_cases hp : decB (undecV s.data.toList) = s
  · have e : rundV s.data.toList = undecV s.data.toList := by
      have := decB_list hp
      rw [this, rundV_dec _ hu.1 hu.2, undecV_dec _ hu.1 hu.2]
    have h0 : ¬ (s.size = 0 ∨ 20 < s.size) := by
      have hd : s.data.toList.length = (decL (undecV s.data.toList)).length := by rw [← decB_list hp]
      have h1 : 0 < (decL (undecV s.data.toList)).length := by
        unfold decL
        have := digs_pos (undecV s.data.toList).natAbs
        rw [List.length_append]
        omega
      have h2 : s.data.toList.length = s.size := Array.length_toList
      omega
    rw [e, undec_yes s _ h0 rfl]
  · have hq : ¬ decB (rundV s.data.toList) = s := fun hq => hp (by
      have := decB_list hq
      have e : undecV s.data.toList = rundV s.data.toList := by rw [this, undecV_dec _ hr.1 hr.2, rundV_dec _ hr.1 hr.2]
      rw [e]; exact hq)
    rw [if_neg hq]
    by_cases h0 : s.size = 0 ∨ 20 < s.size
    · exact undec_no s h0
    · rw [undec_yes s _ h0 rfl, if_neg hp]

theorem headD_get {α : Type} (l : List α) (d : α) (h : 0 < l.length) : l.headD d = l[0] := by
  cases l with
  | nil => simp at h
  | cons a r => rfl
theorem bt_nat (s : ByteArray) (i : Nat) (hi : i < s.size) : bt s (i : Int) = ((s.data.toList[i]'(by rw [Array.length_toList]; exact hi)).toNat : Int) := by
  have := bt_at s (i : Int) (by simpa using hi)
  rw [← this]
  simp
  rfl

/-- A great hexadecimal digit's value; nought of any other sign. -/
def valR (c : UInt8) : Nat := if 48 ≤ c.toNat ∧ c.toNat ≤ 57 then c.toNat - 48 else if 65 ≤ c.toNat ∧ c.toNat ≤ 70 then c.toNat - 55 else 0
theorem valR_lt (c : UInt8) : valR c < 16 := by unfold valR; split <;> (try split) <;> omega
theorem valR_hex : ∀ n : Nat, n < 16 → valR (hexU n) = n := by
  have key : ∀ m : Fin 16, valR (hexU m.val) = m.val := by decide
  exact fun n h => key ⟨n, h⟩
theorem hexP_hex : ∀ n : Nat, n < 16 → hexP (hexU n) = n + 1 := by
  have key : ∀ m : Fin 16, hexP (hexU m.val) = m.val + 1 := by decide
  exact fun n h => key ⟨n, h⟩

/-- A word's bytes, guessed. -/
def parseR : List UInt8 → List UInt8
  | [] => []
  | c :: r => if c = 37 then
      match r with
      | a :: b :: r' => UInt8.ofNat (16 * valR a + valR b) :: parseR r'
      | [a] => [c, a]
      | [] => [c]
    else c :: parseR r
theorem parseR_plain {c : UInt8} {r : List UInt8} (h : c ≠ 37) : parseR (c :: r) = c :: parseR r := by
  conv => lhs; rw [parseR.eq_def]
  exact if_neg h
theorem parseR_hex (a b : UInt8) (r : List UInt8) : parseR (37 :: a :: b :: r) = UInt8.ofNat (16 * valR a + valR b) :: parseR r := by
  conv => lhs; rw [parseR.eq_def]
  simp
theorem parseR_two (a : UInt8) : parseR [37, a] = 37 :: [a] := by rw [parseR.eq_def]; simp
theorem parseR_one (c : UInt8) : parseR [c] = [c] := by
  rw [parseR.eq_def]
  by_cases h : c = 37
  · simp [h]
  · simp [h, parseR]

theorem escC_cases (c : UInt8) : (escC c = [c] ∧ c ≠ 37) ∨ escC c = [37, hexU (c.toNat / 16), hexU (c.toNat % 16)] := by
  unfold escC
  split
  · rename_i h
    exact .inl ⟨rfl, fun e => by rw [e] at h; exact h.2.2 rfl⟩
  · exact .inr rfl
theorem parseR_esc : ∀ t : List UInt8, parseR (t.flatMap escC) = t
  | [] => rfl
  | c :: t => by
    have ih := parseR_esc t
    have hlt := c.toNat_lt
    rw [List.flatMap_cons]
    rcases escC_cases c with ⟨e, h⟩ | e
    · rw [e, List.singleton_append, parseR_plain h, ih]
    · rw [e]
      show parseR (37 :: hexU (c.toNat / 16) :: hexU (c.toNat % 16) :: t.flatMap escC) = _
      rw [parseR_hex, ih, valR_hex _ (by omega), valR_hex _ (by omega), show 16 * (c.toNat / 16) + c.toNat % 16 = c.toNat by omega, UInt8.ofNat_toNat]
theorem unescS_esc : ∀ t : List UInt8, unescS (t.flatMap escC) = some t
  | [] => by simp [unescS]
  | c :: t => by
    have ih := unescS_esc t
    have hlt := c.toNat_lt
    rw [List.flatMap_cons]
    rcases escC_cases c with ⟨e, h⟩ | e
    · rw [e, List.singleton_append, unescS_plain h, ih]; rfl
    · rw [e]
      show unescS (37 :: hexU (c.toNat / 16) :: hexU (c.toNat % 16) :: t.flatMap escC) = _
      rw [unescS_hex (by rw [hexP_hex _ (by omega), hexP_hex _ (by omega)]; omega), ih, Option.map_some]
      unfold hexC
      rw [hexP_hex _ (by omega), hexP_hex _ (by omega), show (c.toNat / 16 + 1 - 1) * 16 + (c.toNat % 16 + 1 - 1) = c.toNat by omega, UInt8.ofNat_toNat]

theorem escB_list {t : List UInt8} {w : ByteArray} (h : escB ⟨t.toArray⟩ = w) : w.data.toList = escL t := by rw [← h]; rfl
theorem escL_flat {t : List UInt8} (h : t ≠ []) : escL t = t.flatMap escC := if_neg h
def finR (w : ByteArray) (t : List UInt8) : ByteArray × Int := if escB ⟨t.toArray⟩ = w then (⟨t.toArray⟩, 0) else (⟨#[]⟩, 44)
theorem unesc_eq (w : ByteArray) (h : w ≠ ⟨#[37]⟩) : unesc w = finR w (parseR w.data.toList) := by
  have ne : ∀ t, escB ⟨t.toArray⟩ = w → t ≠ [] := fun t ht e => h (by rw [← ht, e]; rfl)
  by_cases hp : escB ⟨(parseR w.data.toList).toArray⟩ = w
  · have hl := escB_list hp
    rw [escL_flat (ne _ hp)] at hl
    have hs : unescS w.data.toList = some (parseR w.data.toList) := by
      conv => lhs; rw [hl]
      exact unescS_esc _
    rw [unesc_some h hs]; rfl
  · have e : finR w (parseR w.data.toList) = (⟨#[]⟩, 44) := if_neg hp
    rw [e]
    cases hs : unescS w.data.toList with
    | none => exact unesc_none h hs
    | some t =>
      rw [unesc_some h hs]
      by_cases ht : escB ⟨t.toArray⟩ = w
      · exfalso
        apply hp
        have hl := escB_list ht
        rw [escL_flat (ne _ ht)] at hl
        rw [hl, parseR_esc]; exact ht
      · exact if_neg ht

theorem bytesI_snoc (acc : List UInt8) (c : UInt8) : bytesI acc ++ [(c.toNat : Int)] = bytesI (acc ++ [c]) := by rw [bytesI_append]; rfl
theorem wrap_nat (i n : Nat) (h : i + n ≤ 9223372036854775807) : Hid (wrap64 ((i : Int) + (n : Int)) = ((i + n : Nat) : Int)) := by
  show _ = _
  rw [wrap64_of (by omega) (by omega)]
  omega
theorem val_nat (a b : Nat) (ha : a < 16) (hb : b < 16) : Hid ((wrap64 (wrap64 (16 * (a : Int)) + (b : Int))) % 256 = ((UInt8.ofNat (16 * a + b)).toNat : Int)) := by
  show _ = _
  rw [wrap64_of (a := 16 * (a : Int)) (by omega) (by omega), wrap64_of (by omega) (by omega), UInt8.toNat_ofNat_of_lt' (by show _ < 256; omega)]
  omega
theorem unesc_err (s : ByteArray) : (unesc s).2 = 0 ∨ (unesc s).2 = 44 := by
  unfold unesc
  split
  · exact .inl rfl
  · split
    · exact .inr rfl
    · split
      · exact .inl rfl
      · exact .inr rfl

def mkB (l : List UInt8) : ByteArray := ⟨l.toArray⟩
/-- The parts of a text at each c; cur: what stands ahead of it. -/
def splitL (c : UInt8) : List UInt8 → List UInt8 → List (List UInt8)
  | [], cur => [cur]
  | x :: r, cur => if x = c then cur :: splitL c r [] else splitL c r (cur ++ [x])
/-- The lines of a text. -/
def lineS : List UInt8 → List UInt8 → List (List UInt8)
  | [], cur => if cur = [] then [] else [cur]
  | x :: r, cur => if x = 10 then cur :: lineS r [] else lineS r (cur ++ [x])
theorem splitL_len (c : UInt8) : ∀ l cur, (splitL c l cur).length ≤ l.length + 1
  | [], cur => by simp [splitL]
  | x :: r, cur => by
    unfold splitL
    split
    · have := splitL_len c r []; simp; omega
    · have := splitL_len c r (cur ++ [x]); simp; omega
theorem splitL_pos (c : UInt8) : ∀ l cur, 0 < (splitL c l cur).length
  | [], cur => by simp [splitL]
  | x :: r, cur => by
    unfold splitL
    split
    · simp
    · exact splitL_pos c r _
theorem splitL_size (c : UInt8) : ∀ l cur (p : List UInt8), p ∈ splitL c l cur → p.length ≤ cur.length + l.length
  | [], cur, p, h => by simp [splitL] at h; subst h; simp
  | x :: r, cur, p, h => by
    unfold splitL at h
    split at h
    · rcases List.mem_cons.1 h with rfl | h
      · omega
      · have := splitL_size c r [] p h; simp at this ⊢; omega
    · have := splitL_size c r (cur ++ [x]) p h; simp at this ⊢; omega
theorem lineS_size : ∀ l cur (p : List UInt8), p ∈ lineS l cur → p.length ≤ cur.length + l.length
  | [], cur, p, h => by
    unfold lineS at h
    split at h
    · cases h
    · rw [List.mem_singleton.1 h]; omega
  | x :: r, cur, p, h => by
    unfold lineS at h
    split at h
    · rcases List.mem_cons.1 h with rfl | h
      · omega
      · have := lineS_size r [] p h; simp at this ⊢; omega
    · have := lineS_size r (cur ++ [x]) p h; simp at this ⊢; omega
theorem lineS_len : ∀ l cur, (lineS l cur).length ≤ l.length + 1
  | [], cur => by unfold lineS; split <;> simp
  | x :: r, cur => by
    unfold lineS
    split
    · have := lineS_len r []; simp; omega
    · have := lineS_len r (cur ++ [x]); simp; omega

theorem extract_mk (s : ByteArray) (a b : Nat) (hab : a ≤ b) (hb : b ≤ s.size) : s.extract a b = mkB ((s.data.toList.drop a).take (b - a)) := by
  apply ByteArray.ext
  apply Array.toList_inj.1
  show (s.extract a b).data.toList = _
  rw [ByteArray.data_extract, Array.toList_extract]
  rfl
theorem cur_next (l : List UInt8) (a i : Nat) (ha : a ≤ i) (hi : i < l.length) : (l.drop a).take (i + 1 - a) = (l.drop a).take (i - a) ++ [l[i]] := by
  rw [show i + 1 - a = (i - a) + 1 by omega, List.take_succ_eq_append_getElem (by rw [List.length_drop]; omega), List.getElem_drop]
  congr 3
  omega

theorem parted_loop (s : ByteArray) (c : UInt8) (hs : s.size ≤ 8796093022000) : ∀ (d k a i : Nat) (acc : List ByteArray), d + i = s.size → a ≤ i → acc.length ≤ i → d < k →
    text_parted.l0 k s (c.toNat : Int) acc (a : Int) (i : Int) = some (acc ++ (splitL c (s.data.toList.drop i) ((s.data.toList.drop a).take (i - a))).map mkB) := by
  have hlen : s.data.toList.length = s.size := Array.length_toList
  intro d
  induction d with
  | zero =>
    intro k a i acc hd ha hacc hk
    obtain ⟨k, rfl⟩ : ∃ m, k = m + 1 := ⟨k - 1, by omega⟩
    obtain rfl : i = s.size := by omega
    rw [text_parted.l0, if_neg (by omega), if_pos (by omega), if_pos (by omega), if_pos (by omega), List.drop_eq_nil_of_le (by omega : s.data.toList.length ≤ s.size)]
    simp only [splitL, List.map_cons, List.map_nil, Int.toNat_natCast]
    rw [extract_mk s a s.size ha (Nat.le_refl _)]
  | succ d ih =>
    intro k a i acc hd ha hacc hk
    obtain ⟨k, rfl⟩ : ∃ m, k = m + 1 := ⟨k - 1, by omega⟩
    have hb := bt_nat s i (by omega)
    have hw : Hid (wrap64 ((i : Int) + 1) = ((i + 1 : Nat) : Int)) := wrap_nat i 1 (by omega)
    have hdr : s.data.toList.drop i = s.data.toList[i]'(by omega) :: s.data.toList.drop (i + 1) := List.drop_eq_getElem_cons (by omega)
    have hcur := cur_next s.data.toList a i ha (by omega)
    rw [text_parted.l0, if_pos (by omega), if_pos (by omega), hb, hdr]
    generalize s.data.toList[i]'(by omega) = x at hb hdr hcur
    by_cases hx : x = c
    · have hg := ih k (i + 1) (i + 1) (acc ++ [mkB ((s.data.toList.drop a).take (i - a))]) (by omega) (Nat.le_refl _) (by simp; omega) (by omega)
      rw [if_pos (by rw [hx]), if_pos (by omega), if_pos (by omega), if_pos (by omega), if_pos (by omega), hw.out]
      simp only [Int.toNat_natCast]
      rw [extract_mk s a i ha (by omega), hg]
      conv => rhs; rw [splitL, if_pos hx]
      simp
    · have hg := ih k a (i + 1) acc (by omega) (by omega) (by omega) (by omega)
      rw [if_neg (fun e => hx (UInt8.toNat_inj.1 (by omega))), hw.out, hg, hcur]
      conv => rhs; rw [splitL, if_neg hx]
theorem parted_f (s : ByteArray) (c : UInt8) (hs : s.size ≤ 8796093022000) (k : Nat) (hk : s.size < k) : text_parted.f k s (c.toNat : Int) = some ((splitL c s.data.toList []).map mkB) := by
  have := parted_loop s c hs s.size k 0 0 [] (by omega) (Nat.le_refl _) (by simp) hk
  unfold text_parted.f
  simpa using this

/-- Every word read; the first refusal. -/
def unescAll : List ByteArray → List ByteArray → List ByteArray × Int
  | acc, [] => (acc, 0)
  | acc, p :: r => if (unesc p).2 = 0 then unescAll (acc ++ [(unesc p).1]) r else ([], (unesc p).2)
/-- A line's words. -/
def wordsP (s : ByteArray) : List ByteArray × Int := if s.data.toList = [] then ([], 0) else unescAll [] ((splitL 32 s.data.toList []).map mkB)
theorem unescAll_err : ∀ acc l, (unescAll acc l).2 = 0 ∨ (unescAll acc l).2 = 44
  | acc, [] => .inl rfl
  | acc, p :: r => by
    unfold unescAll
    split
    · exact unescAll_err _ r
    · rename_i h
      exact .inr ((unesc_err p).resolve_left h)
theorem unescAll_len : ∀ acc l, (unescAll acc l).2 = 0 → (unescAll acc l).1.length = acc.length + l.length
  | acc, [], _ => by simp [unescAll]
  | acc, p :: r, h => by
    unfold unescAll at h ⊢
    split at h
    · rename_i h0
      rw [if_pos h0, unescAll_len _ r h]; simp; omega
    · rename_i h0; exact absurd h h0
theorem wordsP_pos (s : ByteArray) (h : s.data.toList ≠ []) (h0 : (wordsP s).2 = 0) : 0 < (wordsP s).1.length := by
  unfold wordsP at h0 ⊢
  rw [if_neg h] at h0 ⊢
  rw [unescAll_len _ _ h0]
  have := splitL_pos 32 s.data.toList []
  simp; omega

theorem words_loop (parts : List ByteArray) (hp : parts.length ≤ 8796093022001) (hsz : ∀ p ∈ parts, p.size ≤ 35184372088832) : ∀ (d k i : Nat) (acc : List ByteArray), d + i = parts.length → acc.length ≤ i → d < k →
    text_Words.l0 k acc parts (parts.length : Int) (i : Int) = some (unescAll acc (parts.drop i)) := by
  intro d
  induction d with
  | zero =>
    intro k i acc hd ha hk
    obtain ⟨k, rfl⟩ : ∃ m, k = m + 1 := ⟨k - 1, by omega⟩
    rw [text_Words.l0, if_neg (by omega), List.drop_eq_nil_of_le (by omega)]
    rfl
  | succ d ih =>
    intro k i acc hd ha hk
    obtain ⟨k, rfl⟩ : ∃ m, k = m + 1 := ⟨k - 1, by omega⟩
    have hw : Hid (wrap64 ((i : Int) + 1) = ((i + 1 : Nat) : Int)) := wrap_nat i 1 (by omega)
    have hdr : parts.drop i = parts[i]'(by omega) :: parts.drop (i + 1) := List.drop_eq_getElem_cons (by omega)
    have hrd : rdOf ByteArray.empty parts (i : Int) = parts[i]'(by omega) := by
      unfold rdOf
      rw [Int.toNat_natCast, List.getD_eq_getElem?_getD, List.getElem?_eq_getElem (by omega)]; rfl
    have hm : (parts[i]'(by omega)).size ≤ 35184372088832 := hsz _ (List.getElem_mem _)
    rw [text_Words.l0, if_pos (by omega), if_pos (by omega), if_pos (by omega), hrd, hdr]
    generalize parts[i]'(by omega) = p at hm hrd hdr
    unfold text_Unescape.f
    rw [if_pos hm, Option.bind_some]
    by_cases h0 : (unesc p).2 = 0
    · have hg := ih k (i + 1) (acc ++ [(unesc p).1]) (by omega) (by simp; omega) (by omega)
      rw [if_pos h0, if_pos (by omega), hw.out, hg]
      conv => rhs; rw [unescAll, if_pos h0]
    · rw [if_neg h0]
      conv => rhs; rw [unescAll, if_neg h0]
theorem parts_ok (s : ByteArray) (c : UInt8) (hs : s.size ≤ 8796093022000) : ((splitL c s.data.toList []).map mkB).length ≤ 8796093022001 ∧ ∀ p ∈ (splitL c s.data.toList []).map mkB, p.size ≤ 8796093022000 := by
  have hlen : s.data.toList.length = s.size := Array.length_toList
  refine ⟨by rw [List.length_map]; have := splitL_len c s.data.toList []; omega, fun p hp => ?_⟩
  obtain ⟨l, hl, rfl⟩ := List.mem_map.1 hp
  have := splitL_size c s.data.toList [] l hl
  show l.toArray.size ≤ _
  rw [List.size_toArray]
  simp at this
  omega
theorem fwords_f (s : ByteArray) (hs : s.size ≤ 8796093022000) (k : Nat) (hk : s.size + 1 < k) : text_Words.f k s = some (wordsP s) := by
  unfold text_Words.f wordsP
  by_cases h : s.data.toList = []
  · rw [if_pos (by rw [ByteArray.toList_eq]; exact h), if_pos h]
  · have hlen : s.data.toList.length = s.size := Array.length_toList
    have h32 : (32 : Int) = (((32 : UInt8).toNat : Nat) : Int) := rfl
    have hok := parts_ok s 32 hs
    have hl := splitL_len 32 s.data.toList []
    rw [if_neg (by rw [ByteArray.toList_eq]; exact h), if_neg h, h32, parted_f s 32 hs k (by omega), Option.bind_some]
    have := words_loop ((splitL 32 s.data.toList []).map mkB) hok.1 (fun p hp => by have := hok.2 p hp; omega) ((splitL 32 s.data.toList []).map mkB).length k 0 [] (by omega) (by simp) (by rw [List.length_map]; omega)
    rw [show ((0 : Nat) : Int) = 0 from rfl, List.drop_zero] at this
    exact this

/-- A text's lines. -/
def linesP (s : ByteArray) : List ByteArray := (lineS s.data.toList []).map mkB
theorem linesP_ok (s : ByteArray) : (linesP s).length ≤ s.size + 1 ∧ ∀ p ∈ linesP s, p.size ≤ s.size := by
  have hlen : s.data.toList.length = s.size := Array.length_toList
  refine ⟨by unfold linesP; rw [List.length_map]; have := lineS_len s.data.toList []; omega, fun p hp => ?_⟩
  obtain ⟨l, hl, rfl⟩ := List.mem_map.1 hp
  have := lineS_size s.data.toList [] l hl
  show l.toArray.size ≤ _
  rw [List.size_toArray]
  simp at this
  omega

def numsAll : List Int → List ByteArray → List Int × Int
  | acc, [] => (acc, 0)
  | acc, w :: r => if (unDec w).2 = 0 then numsAll (acc ++ [(unDec w).1]) r else ([], 42)
theorem unDec_err (s : ByteArray) : (unDec s).2 = 0 ∨ (unDec s).2 = 42 := by
  unfold unDec
  split
  · exact .inr rfl
  · split
    · exact .inl rfl
    · exact .inr rfl
theorem numsAll_len : ∀ acc l, (numsAll acc l).2 = 0 → (numsAll acc l).1.length = acc.length + l.length
  | acc, [], _ => by simp [numsAll]
  | acc, w :: r, h => by
    unfold numsAll at h ⊢
    split at h
    · rename_i h0
      rw [if_pos h0, numsAll_len _ r h]; simp; omega
    · cases h
theorem numsAll_err : ∀ acc l, (numsAll acc l).2 = 0 ∨ (numsAll acc l).2 = 42
  | acc, [] => .inl rfl
  | acc, w :: r => by
    unfold numsAll
    split
    · exact numsAll_err _ r
    · exact .inr rfl
theorem eachS_texts (wants : List UInt8) : ∀ (l : List ByteArray) (i : Nat) (x : StpS), (∀ j, i ≤ j → j < i + l.length → letterAt wants j = 115 ∨ letterAt wants j = 83) → eachS wants i l x = (⟨x.N, x.S ++ l, x.O⟩, 0)
  | [], i, x, _ => by simp [eachS]
  | w :: r, i, x, h => by
    have h0 := h i (Nat.le_refl _) (by simp)
    have e : takeS (letterAt wants i) w x = (⟨x.N, x.S ++ [w], x.O⟩, 0) := if_pos h0
    have ih := eachS_texts wants r (i + 1) ⟨x.N, x.S ++ [w], x.O⟩ (fun j h1 h2 => h j (by omega) (by simp at h2 ⊢; omega))
    unfold eachS
    rw [e, if_pos rfl, ih]
    simp
/-- Numbers from word i on, then the rest. -/
theorem eachS_nums (wants : List UInt8) (oo : Bool) : ∀ (l l2 : List ByteArray) (i : Nat) (x : StpS) (acc : List Int), (∀ j, i ≤ j → j < i + l.length → ¬ (letterAt wants j = 115 ∨ letterAt wants j = 83) ∧ (oo = true ↔ letterAt wants j = 111)) → acc = (if oo = true then x.O else x.N) →
    ((numsAll acc l).2 = 0 → eachS wants i (l ++ l2) x = eachS wants (i + l.length) l2 ⟨if oo = true then x.N else (numsAll acc l).1, x.S, if oo = true then (numsAll acc l).1 else x.O⟩) ∧ ((numsAll acc l).2 ≠ 0 → (eachS wants i (l ++ l2) x).2 = 42)
  | [], l2, i, x, acc, _, ha => by
    refine ⟨fun _ => ?_, fun h => absurd rfl h⟩
    cases oo <;> simp_all [numsAll]
  | w :: r, l2, i, x, acc, h, ha => by
    obtain ⟨h0, hO⟩ := h i (Nat.le_refl _) (by simp)
    have e : takeS (letterAt wants i) w x = (⟨if oo = true then x.N else x.N ++ [(unDec w).1], x.S, if oo = true then x.O ++ [(unDec w).1] else x.O⟩, (unDec w).2) := by
      unfold takeS
      rw [if_neg h0]
      cases oo with
      | true => rw [if_pos (hO.1 rfl)]; rfl
      | false => rw [if_neg (fun h => by have := hO.2 h; cases this)]; rfl
    have ih := eachS_nums wants oo r l2 (i + 1) ⟨if oo = true then x.N else x.N ++ [(unDec w).1], x.S, if oo = true then x.O ++ [(unDec w).1] else x.O⟩ (acc ++ [(unDec w).1]) (fun j h1 h2 => h j (by omega) (by simp at h2 ⊢; omega)) (by cases oo <;> simp [ha])
    unfold numsAll
    rw [List.cons_append, eachS, e]
    by_cases hu : (unDec w).2 = 0
    · rw [if_pos hu]
      simp only [hu, if_true]
      refine ⟨fun hh => ?_, fun hh => ih.2 hh⟩
      rw [ih.1 hh]
      cases oo <;> simp [Nat.add_assoc, Nat.add_comm 1]
    · rw [if_neg hu]
      simp only
      rw [if_neg hu]
      exact ⟨fun hh => absurd hh (by decide), fun _ => (unDec_err w).resolve_left hu⟩

theorem take_drop1 {α : Type} (l : List α) (p : Nat) : (l.take (1 + p)).drop 1 = (l.drop 1).take p := by
  rw [List.drop_take, show 1 + p - 1 = p by omega]

end Go.Proofs.Ytnpmkaklkonofaa.Txt
