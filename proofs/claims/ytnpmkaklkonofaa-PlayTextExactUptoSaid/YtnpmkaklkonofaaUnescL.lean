/- Plain: what Unescape reads. -/
import Derived.Test.YtnpmkaklkonofaaEscL
namespace Go.Proofs.Ytnpmkaklkonofaa.Txt

/-- The place of a great hexadecimal digit, counted from 1; 0: it is none. -/
def hexP (c : UInt8) : Nat := if 48 ≤ c.toNat ∧ c.toNat ≤ 57 then c.toNat - 47 else if 65 ≤ c.toNat ∧ c.toNat ≤ 70 then c.toNat - 54 else 0
theorem hexP_le (c : UInt8) : hexP c ≤ 16 := by unfold hexP; split <;> (try split) <;> omega
def hexC (a b : UInt8) : UInt8 := UInt8.ofNat ((hexP a - 1) * 16 + (hexP b - 1))

def unescS : List UInt8 → Option (List UInt8)
  | [] => some []
  | c :: r => if c ≠ 37 then (unescS r).map (c :: ·) else
    match r with
    | a :: b :: r' => if hexP a = 0 ∨ hexP b = 0 then none else (unescS r').map (hexC a b :: ·)
    | _ => none
def unesc (w : ByteArray) : ByteArray × Int := if w = ⟨#[37]⟩ then (⟨#[]⟩, 0) else
  match unescS w.data.toList with
  | none => (⟨#[]⟩, 44)
  | some t => if escB ⟨t.toArray⟩ = w then (⟨t.toArray⟩, 0) else (⟨#[]⟩, 44)

theorem unescS_plain {c : UInt8} {r : List UInt8} (h : c ≠ 37) : unescS (c :: r) = (unescS r).map (c :: ·) := by
  conv => lhs; rw [unescS.eq_def]
  exact if_pos h
theorem unescS_short {r : List UInt8} (h : r.length < 2) : unescS (37 :: r) = none := by
  match r, h with
  | [], _ => rfl
  | [a], _ => rfl
theorem unescS_bad {a b : UInt8} {r : List UInt8} (h : hexP a = 0 ∨ hexP b = 0) : unescS (37 :: a :: b :: r) = none := by rw [unescS.eq_def]; simp [h]
theorem unescS_hex {a b : UInt8} {r : List UInt8} (h : ¬ (hexP a = 0 ∨ hexP b = 0)) : unescS (37 :: a :: b :: r) = (unescS r).map (hexC a b :: ·) := by
  conv => lhs; rw [unescS.eq_def]
  simp only [ne_eq, not_true_eq_false, if_false]; rw [if_neg h]

/-- The reading so far, and what is left. -/
def UnescAt (w : List UInt8) (i : Nat) (acc : List UInt8) : Prop := unescS w = (unescS (w.drop i)).map (acc ++ ·)
theorem UnescAt.start (w : List UInt8) : UnescAt w 0 [] := by unfold UnescAt; simp
theorem UnescAt.plain {w : List UInt8} {i : Nat} {acc : List UInt8} (h : UnescAt w i acc) (hi : i < w.length) (hc : w[i] ≠ 37) : UnescAt w (i + 1) (acc ++ [w[i]]) := by
  unfold UnescAt at *
  rw [h, List.drop_eq_getElem_cons hi, unescS_plain hc, Option.map_map]
  congr 1
  funext t
  simp
theorem UnescAt.hex {w : List UInt8} {i : Nat} {acc : List UInt8} (h : UnescAt w i acc) (hi : i + 2 < w.length) (hc : w[i]'(by omega) = 37) (hb : ¬ (hexP (w[i + 1]'(by omega)) = 0 ∨ hexP w[i + 2] = 0)) :
    UnescAt w (i + 2 + 1) (acc ++ [hexC (w[i + 1]'(by omega)) w[i + 2]]) := by
  unfold UnescAt at *
  rw [h, List.drop_eq_getElem_cons (by omega : i < w.length), hc, List.drop_eq_getElem_cons (by omega : i + 1 < w.length), List.drop_eq_getElem_cons hi, unescS_hex hb, Option.map_map]
  congr 1
  funext t
  simp
theorem UnescAt.none_short {w : List UInt8} {i : Nat} {acc : List UInt8} (h : UnescAt w i acc) (hi : i < w.length) (hc : w[i] = 37) (hs : w.length ≤ i + 2) : unescS w = none := by
  unfold UnescAt at h
  rw [h, List.drop_eq_getElem_cons hi, hc, unescS_short (by rw [List.length_drop]; omega)]; rfl
theorem UnescAt.none_bad {w : List UInt8} {i : Nat} {acc : List UInt8} (h : UnescAt w i acc) (hi : i + 2 < w.length) (hc : w[i]'(by omega) = 37) (hb : hexP (w[i + 1]'(by omega)) = 0 ∨ hexP w[i + 2] = 0) : unescS w = none := by
  unfold UnescAt at h
  rw [h, List.drop_eq_getElem_cons (by omega : i < w.length), hc, List.drop_eq_getElem_cons (by omega : i + 1 < w.length), List.drop_eq_getElem_cons hi, unescS_bad hb]; rfl
theorem UnescAt.done {w : List UInt8} {acc : List UInt8} (h : UnescAt w w.length acc) : unescS w = some acc := by
  unfold UnescAt at h
  rw [h, List.drop_length]; simp [unescS]

theorem unesc_pct : unesc ⟨#[37]⟩ = (⟨#[]⟩, 0) := by unfold unesc; rw [if_pos rfl]
theorem unesc_none {w : ByteArray} (h : w ≠ ⟨#[37]⟩) (hn : unescS w.data.toList = none) : unesc w = (⟨#[]⟩, 44) := by unfold unesc; rw [if_neg h, hn]
theorem unesc_some {w : ByteArray} {t : List UInt8} (h : w ≠ ⟨#[37]⟩) (hn : unescS w.data.toList = some t) : unesc w = if escB ⟨t.toArray⟩ = w then (⟨t.toArray⟩, 0) else (⟨#[]⟩, 44) := by unfold unesc; rw [if_neg h, hn]

end Go.Proofs.Ytnpmkaklkonofaa.Txt
