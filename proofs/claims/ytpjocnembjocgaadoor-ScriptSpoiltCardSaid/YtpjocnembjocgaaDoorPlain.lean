/- Plain facts on digits and signs; no program. -/
import Derived.Lib.ParseIntBCases
import Derived.Lib.RuneBytes
namespace Go.Proofs.YtpjocnembjocgaaDoor

/-- The sign at a place; a line feed behind the end. -/
def peekF (l : List Int) (i : Nat) : Int := l.getD i 10
/-- The first place from i on whose sign is none of p's. -/
def skipF (p : Int → Bool) (l : List Int) (i : Nat) : Nat := i + ((l.drop i).takeWhile p).length
def blanksF (l : List Int) (i : Nat) : Nat := skipF (· == 32) l i

theorem skip_step (p : Int → Bool) (l : List Int) (i : Nat) (h : i < l.length) (hp : p l[i] = true) : skipF p l i = skipF p l (i + 1) := by
  unfold skipF
  rw [List.drop_eq_getElem_cons h, List.takeWhile_cons, if_pos hp]
  simp; omega
theorem skip_stop (p : Int → Bool) (l : List Int) (i : Nat) (h : i < l.length) (hp : p l[i] = false) : skipF p l i = i := by
  unfold skipF
  rw [List.drop_eq_getElem_cons h, List.takeWhile_cons, if_neg (by simp [hp])]
  simp
theorem skip_end (p : Int → Bool) (l : List Int) (i : Nat) (h : l.length ≤ i) : skipF p l i = i := by
  unfold skipF
  rw [List.drop_eq_nil_of_le h]; simp
theorem skip_le (p : Int → Bool) (l : List Int) (i : Nat) (h : i ≤ l.length) : skipF p l i ≤ l.length := by
  unfold skipF
  have := (List.takeWhile_prefix p (l := l.drop i)).length_le
  simp at this; omega
theorem skip_ge (p : Int → Bool) (l : List Int) (i : Nat) : i ≤ skipF p l i := by unfold skipF; omega
theorem peek_lt {l : List Int} {i : Nat} (h : i < l.length) : peekF l i = l[i] := by simp [peekF, List.getD_eq_getElem?_getD, h]
theorem peek_ge {l : List Int} {i : Nat} (h : l.length ≤ i) : peekF l i = 10 := by simp [peekF, List.getD_eq_getElem?_getD, h]
/-- A predicate that does not hold of a line feed: by what peek gives. -/
theorem skip_yes (p : Int → Bool) (h10 : p 10 = false) (l : List Int) (i : Nat) (h : p (peekF l i) = true) : i < l.length ∧ skipF p l i = skipF p l (i + 1) := by
  by_cases hi : i < l.length
  · rw [peek_lt hi] at h; exact ⟨hi, skip_step p l i hi h⟩
  · rw [peek_ge (by omega)] at h; simp [h10] at h
theorem skip_no (p : Int → Bool) (l : List Int) (i : Nat) (h : p (peekF l i) = false) : skipF p l i = i := by
  by_cases hi : i < l.length
  · rw [peek_lt hi] at h; exact skip_stop p l i hi h
  · exact skip_end p l i (by omega)
/-- Where the skipping stops, the sign is none of p's. -/
theorem skip_at (p : Int → Bool) (h10 : p 10 = false) (l : List Int) : ∀ (n i : Nat), l.length - i ≤ n → p (peekF l (skipF p l i)) = false := by
  intro n
  induction n with
  | zero => intro i hi; rw [skip_end p l i (by omega), peek_ge (by omega)]; exact h10
  | succ n ih =>
    intro i hi
    cases h : p (peekF l i) with
    | true => have := skip_yes p h10 l i h; rw [this.2]; exact ih (i + 1) (by omega)
    | false => rw [skip_no p l i h]; exact h

/-- Is a sign from one to another one? -/
def inR (a b : Int) (r : Int) : Bool := decide (a ≤ r) && decide (r ≤ b)
/-- Signs from a place to another one. -/
def cut (l : List Int) (i j : Nat) : List Int := (l.drop i).take (j - i)
/-- The bytes of signs. -/
def enc (l : List Int) : List UInt8 := l.flatMap Lib.encodeRune

theorem cut_snoc {l : List Int} {i j : Nat} (hij : i ≤ j) (hj : j < l.length) : cut l i (j + 1) = cut l i j ++ [peekF l j] := by
  unfold cut
  rw [show j + 1 - i = (j - i) + 1 by omega, List.take_add_one, List.getElem?_drop, show i + (j - i) = j by omega, List.getElem?_eq_getElem hj, peek_lt hj]
  rfl
theorem cut_self (l : List Int) (i : Nat) : cut l i i = [] := by simp [cut]
theorem enc_snoc (l : List Int) (r : Int) : enc (l ++ [r]) = enc l ++ Lib.encodeRune r := by simp [enc]
theorem encodeRune_le (r : Int) : (Lib.encodeRune r).length ≤ 4 := by
  have := Lib.runeCells_le r
  rw [Lib.runeCells_length] at this; omega
theorem enc_le (l : List Int) : (enc l).length ≤ 4 * l.length := by
  induction l with
  | nil => simp [enc]
  | cons a l ih =>
    have := encodeRune_le a
    simp only [enc, List.flatMap_cons, List.length_append, List.length_cons] at *
    omega
theorem cut_le (l : List Int) (i j : Nat) : (cut l i j).length ≤ l.length := by simp [cut]; omega
theorem cut_length {l : List Int} {i j : Nat} (hj : j ≤ l.length) : (cut l i j).length = j - i := by simp [cut]; omega
theorem peek_bounds {l : List Int} (h : ∀ r ∈ l, 0 ≤ r ∧ r ≤ 2147483647) (i : Nat) : 0 ≤ peekF l i ∧ peekF l i ≤ 2147483647 := by
  by_cases hi : i < l.length
  · rw [peek_lt hi]; exact h _ (List.getElem_mem hi)
  · rw [peek_ge (by omega)]; decide

/-- The value of digits. -/
def valF (acc : Nat) (d : List UInt8) : Nat := d.foldl (fun a c => a * 10 + (c.toNat - 48)) acc
theorem valF_nil (acc : Nat) : valF acc [] = acc := rfl
theorem valF_cons (acc : Nat) (c : UInt8) (r : List UInt8) : valF acc (c :: r) = valF (acc * 10 + (c.toNat - 48)) r := by unfold valF; rw [List.foldl_cons]
def dig (c : UInt8) : Bool := decide (48 ≤ c.toNat) && decide (c.toNat ≤ 57)
theorem valF_ge (d : List UInt8) : ∀ acc, acc ≤ valF acc d := by
  induction d with
  | nil => intro acc; rw [valF_nil]; exact Nat.le_refl _
  | cons c r ih => intro acc; have := ih (acc * 10 + (c.toNat - 48)); rw [valF_cons]; omega
theorem parseM (M : Nat) (hM : M ≤ 18446744073709551615) (d : List UInt8) : ∀ acc, acc ≤ M → (∀ c ∈ d, dig c = true) →
    (valF acc d ≤ M → Lib.parseUintM M acc d = .ok (valF acc d)) ∧ (M < valF acc d → Lib.parseUintM M acc d = .range) := by
  induction d with
  | nil =>
    intro acc h _
    refine ⟨fun _ => rfl, fun h' => ?_⟩
    rw [valF_nil] at h'; omega
  | cons c r ih =>
    intro acc h hd
    have hc := hd c (by simp)
    simp only [dig, Bool.and_eq_true, decide_eq_true_eq] at hc
    have hge := valF_ge r (acc * 10 + (c.toNat - 48))
    rw [Lib.parseUintM, valF_cons, if_pos hc]
    by_cases h1 : 1844674407370955162 ≤ acc
    · rw [if_pos h1]
      exact ⟨fun h' => by omega, fun _ => rfl⟩
    · rw [if_neg h1]
      by_cases h2 : M < acc * 10 + (c.toNat - 48)
      · rw [if_pos h2]
        exact ⟨fun h' => by omega, fun _ => rfl⟩
      · rw [if_neg h2]
        exact ih _ (by omega) (fun c hc => hd c (by simp [hc]))
theorem parseB (d : List UInt8) (hd : ∀ c ∈ d, dig c = true) (h0 : d ≠ []) :
    (valF 0 d ≤ 18446744073709551615 → Lib.parseUintB 64 d = .ok (valF 0 d)) ∧ (18446744073709551615 < valF 0 d → Lib.parseUintB 64 d = .range) := by
  unfold Lib.parseUintB
  rw [if_neg h0]
  exact parseM 18446744073709551615 (Nat.le_refl _) d 0 (by omega) hd

/-- What is read of a number: an error or 0, where the scanner stands then, the number. -/
def numF (most : Nat) (l : List Int) (i : Nat) : Int × Nat × Nat :=
  let a := blanksF l i
  let k := skipF (inR 48 57) l a
  let d := enc (cut l a k)
  if d = [] ∨ (1 < d.length ∧ d.headD 0 = 48) then (4, a, 0)
  else if most < valF 0 d then (12, a, 0) else (0, k, valF 0 d)

theorem encodeRune_ascii (r : Int) (h0 : 0 ≤ r) (h : r < 128) : Lib.encodeRune r = [UInt8.ofNat r.toNat] := by
  unfold Lib.encodeRune
  rw [Lib.encodeRuneZ_one h0 (by omega)]; rfl
theorem enc_digits {l : List Int} (h : ∀ r ∈ l, inR 48 57 r = true) : enc l = l.map (fun r => UInt8.ofNat r.toNat) := by
  induction l with
  | nil => rfl
  | cons a l ih =>
    have ha := h a (by simp)
    simp only [inR, Bool.and_eq_true, decide_eq_true_eq] at ha
    simp only [enc, List.flatMap_cons, List.map_cons] at *
    rw [ih (fun r hr => h r (by simp [hr])), encodeRune_ascii a (by omega) (by omega)]; rfl
theorem cut_skip (p : Int → Bool) (l : List Int) (a : Nat) : cut l a (skipF p l a) = (l.drop a).takeWhile p := by
  unfold cut skipF
  rw [show a + ((l.drop a).takeWhile p).length - a = ((l.drop a).takeWhile p).length by omega]
  exact (List.prefix_iff_eq_take.1 (List.takeWhile_prefix p (l := l.drop a))).symm
theorem cut_all (p : Int → Bool) (l : List Int) (a : Nat) : ∀ r ∈ cut l a (skipF p l a), p r = true := by
  rw [cut_skip]
  have := List.all_takeWhile (l := l.drop a) (p := p)
  exact List.all_eq_true.1 this
theorem enc_dig {l : List Int} (h : ∀ r ∈ l, inR 48 57 r = true) : ∀ c ∈ enc l, dig c = true := by
  rw [enc_digits h]
  intro c hc
  obtain ⟨r, hr, rfl⟩ := List.mem_map.1 hc
  have := h r hr
  simp only [inR, Bool.and_eq_true, decide_eq_true_eq, dig] at *
  rw [UInt8.toNat_ofNat_of_lt' (by simp [UInt8.size]; omega)]
  omega
end Go.Proofs.YtpjocnembjocgaaDoor
