/- What the teller's methods do: at, blanks, number. -/
import Derived.Test.YtpjocnembjocgaaDoorStep
import Derived.Laws.Cover4
namespace Go.Proofs.YtpjocnembjocgaaDoor
open Go.RowKit Go.Mi

theorem u8_nat {x : Int} {n : Nat} (h : x = n) : x.toNat.toUInt8 = UInt8.ofNat n := by subst h; simp
theorem encode_nat (r : Nat) : Utf8.encode (r : Int) = ⟨(Lib.encodeRune (r : Int)).toArray⟩ := by
  apply ByteArray.ext
  apply Array.toList_inj.1
  unfold Lib.encodeRune
  by_cases c1 : r < 128
  · rw [Lib.encodeRuneZ_one (by omega) (by omega)]
    have v : Utf8.valid (r : Int) = true := by simp [Utf8.valid]; omega
    simp [Utf8.encode, v, c1]
  by_cases hb : (55296 ≤ r ∧ r ≤ 57343) ∨ 1114111 < r
  · rw [Lib.encodeRuneZ_bad (by omega)]
    have v : Utf8.valid (r : Int) = false := by simp [Utf8.valid]; omega
    simp [Utf8.encode, v, Utf8.runeError]
  have v : Utf8.valid (r : Int) = true := by simp [Utf8.valid]; omega
  by_cases c2 : r < 2048
  · rw [Lib.encodeRuneZ_two (by omega) (by omega)]
    simp only [List.map_cons, List.map_nil]
    rw [u8_nat (n := 192 + r / 64) (by omega), u8_nat (n := 128 + r % 64) (by omega)]
    simp [Utf8.encode, v, c1, c2]
  by_cases c3 : r < 65536
  · rw [Lib.encodeRuneZ_three (by omega)]
    simp only [List.map_cons, List.map_nil]
    rw [u8_nat (n := 224 + r / 4096) (by omega), u8_nat (n := 128 + r / 64 % 64) (by omega), u8_nat (n := 128 + r % 64) (by omega)]
    simp [Utf8.encode, v, c1, c2, c3]
  · rw [Lib.encodeRuneZ_four (by omega) (by omega)]
    simp only [List.map_cons, List.map_nil]
    rw [u8_nat (n := 240 + r / 262144) (by omega), u8_nat (n := 128 + r / 4096 % 64) (by omega), u8_nat (n := 128 + r / 64 % 64) (by omega), u8_nat (n := 128 + r % 64) (by omega)]
    simp [Utf8.encode, v, c1, c2, c3]
theorem runes_acc (l : List Int) (h : ∀ r ∈ l, 0 ≤ r) : ∀ x : List UInt8, l.foldl (fun r n => r ++ Utf8.encode n) ⟨x.toArray⟩ = ⟨(x ++ enc l).toArray⟩ := by
  induction l with
  | nil => intro x; simp [enc]
  | cons a l ih =>
    intro x
    obtain ⟨n, rfl⟩ := Int.eq_ofNat_of_zero_le (h a (by simp))
    have := ih (fun r hr => h r (by simp [hr])) (x ++ Lib.encodeRune n)
    rw [List.foldl_cons, encode_nat, show (⟨x.toArray⟩ : ByteArray) ++ (⟨(Lib.encodeRune (n : Int)).toArray⟩ : ByteArray) = ⟨(x ++ Lib.encodeRune (n : Int)).toArray⟩ from by apply ByteArray.ext; simp, this]
    simp [enc]
theorem runesBytes_enc (l : List Int) (h : ∀ r ∈ l, 0 ≤ r) : runesBytes l = ⟨(enc l).toArray⟩ := by
  have := runes_acc l h []
  unfold runesBytes
  exact this

theorem tat_any {w : World} {b i : Nat} {l : List Int} {er : Int} (h : Scan w b 64 l i er) (j : Nat) :
    Calls Tryd.prog 31 #[.pointer (some ⟨b, 0, none⟩), .int .i64 j] w fun e w' => e = .returned (.int .i32 (peekF l j)) ∧ w = w' := by
  refine post_hid ?_; intro R hR
  have hl := h.len
  rcases h.row with ⟨hl0, c0⟩ | ⟨g, cap, c0, hc⟩
  · have H := Lib.hid (peek_ge (l := l) (i := j) (by simp [hl0])); clear hl0 hl h
    have h0 : ¬ ((j : Int) < 0) := by omega
    go_enter Tryd.func31, Tryd.ntmps31
    go_wp2
    try go_ret
    exact hR.out _ _ ⟨by rw [H.out], rfl⟩
  · by_cases hi : j < l.length
    · have hr := hc j hi
      generalize peekF l j = r at *
      clear hc h
      go_enter Tryd.func31, Tryd.ntmps31
      go_wp2
      try go_ret
      exact hR.out _ _ ⟨rfl, rfl⟩
    · have H := Lib.hid (peek_ge (l := l) (i := j) (by omega)); clear hc h
      go_enter Tryd.func31, Tryd.ntmps31
      go_wp2
      try go_ret
      exact hR.out _ _ ⟨by rw [H.out]; rfl, rfl⟩

theorem tblanks_any {w : World} {b i : Nat} {l : List Int} {er : Int} (h : Scan w b 64 l i er) :
    Calls Tryd.prog 30 #[.pointer (some ⟨b, 0, none⟩)] w fun e w' => e = .returned (.tuple #[]) ∧ Scan w' b 64 l (blanksF l i) er ∧ Keeps (· = b) w w' := by
  refine post_hid ?_; intro R hR
  go_enter Tryd.func30, Tryd.ntmps30
  go_wp2
  go_loopg [] (l.length - i) (fun k wr => ∃ j, k = l.length - j ∧ Scan wr b 64 l j er ∧ Keeps (· = b) w wr ∧ blanksF l j = blanksF l i)
  case atStart => exact ⟨i, rfl, h, Keeps.refl _, rfl⟩
  case round =>
    obtain ⟨j, hk, hS, hK, hB⟩ := hrel
    have HB := Lib.hid hB; clear hB
    have HK := Lib.hid hk; clear hk
    obtain ⟨_, c1, c2, f1, f2⟩ := hS.cells
    by_cases hp : peekF l j = 32
    · have HP := Lib.hid (skip_yes (· == 32) rfl l j (by simp [hp]))
      have hp' : (peekF l j == 32) = true := by simp [hp]
      clear hp
      have hj2 := hS.here; have hj3 := hS.len
      go_wp2_with (go_at_call 31; refine (tat_any hS j).mono ?_; rintro e w1 ⟨rfl, rfl⟩)
      go_roundg (l.length - (j + 1))
      case measure => rw [HK.out]; have := HP.out.1; omega
      case rel =>
        have hjl := HP.out.1
        refine ⟨j + 1, rfl, hS.set_i (j + 1) (by omega), hK.trans (Keeps.setCell _ _ _ (fun _ => rfl)), ?_⟩
        rw [← HB.out]
        unfold blanksF; rw [HP.out.2]
    · have HP := Lib.hid (skip_no (· == 32) l j (by simp [hp]))
      have hp' : (peekF l j == 32) = false := by simp [hp]
      clear hp
      go_wp2_with (go_at_call 31; refine (tat_any hS j).mono ?_; rintro e w1 ⟨rfl, rfl⟩)
      go_end0
      refine hR.out _ _ ⟨rfl, ?_, hK⟩
      rw [← HB.out]
      unfold blanksF; rw [HP.out]
      exact hS

theorem tnumber_bad {w : World} {b i : Nat} {l : List Int} {er : Int} (most : Nat) (h : Scan w b 64 l i er) (he : er ≠ 0) :
    Calls Tryd.prog 44 #[.pointer (some ⟨b, 0, none⟩), .int .u64 most] w fun e w' => e = .returned (.int .u64 0) ∧ w = w' := by
  obtain ⟨_, c1, c2, f1, f2⟩ := h.cells
  have he' : (er != 0) = true := by simpa using he
  go_enter Tryd.func44, Tryd.ntmps44
  go_wp2
  try go_ret
  exact ⟨rfl, rfl⟩

/-- The value of the digits from a place to another one. -/
def valV (l : List Int) (a j : Nat) : Nat := valF 0 (enc (cut l a j))
theorem valF_snoc (d : List UInt8) (c : UInt8) : ∀ acc, valF acc (d ++ [c]) = valF acc d * 10 + (c.toNat - 48) := by
  intro acc
  simp [valF, List.foldl_append]
theorem valV_self (l : List Int) (a : Nat) : valV l a a = 0 := by unfold valV; rw [cut_self]; rfl
theorem valV_snoc {l : List Int} {a j d : Nat} (haj : a ≤ j) (hj : j < l.length) (hd : d ≤ 9) (h : peekF l j = 48 + d) : valV l a (j + 1) = valV l a j * 10 + d := by
  unfold valV
  rw [cut_snoc haj hj, enc_snoc, h, encodeRune_ascii _ (by omega) (by omega), valF_snoc, UInt8.toNat_ofNat_of_lt' (by simp [UInt8.size]; omega)]
  omega
theorem numG_way (most : Nat) (l : List Int) (a : Nat) : numG most a (skipF (inR 48 57) l a) (enc (cut l a (skipF (inR 48 57) l a))) =
    if skipF (inR 48 57) l a = a ∨ (a + 1 < skipF (inR 48 57) l a ∧ peekF l a = 48) then (4, a, 0)
    else if most < valV l a (skipF (inR 48 57) l a) then (12, a, 0) else (0, skipF (inR 48 57) l a, valV l a (skipF (inR 48 57) l a)) := by
  have hall := cut_all (inR 48 57) l a
  have hge := skip_ge (inR 48 57) l a
  by_cases hal : l.length ≤ a
  · rw [skip_end _ l a hal, cut_self]
    rw [if_pos (Or.inl rfl)]
    rfl
  · have hle := skip_le (inR 48 57) l a (by omega)
    unfold valV
    generalize skipF (inR 48 57) l a = k at *
    have hD : enc (cut l a k) = (cut l a k).map (fun r => UInt8.ofNat r.toNat) := enc_digits hall
    have hlen : (enc (cut l a k)).length = k - a := by rw [hD, List.length_map, cut_length hle]
    unfold numG
    by_cases hka : k = a
    · rw [if_pos (Or.inl hka), if_pos (Or.inl (List.eq_nil_of_length_eq_zero (by omega)))]
    · have hne : enc (cut l a k) ≠ [] := fun e => by rw [e] at hlen; simp at hlen; omega
      have hhd : (enc (cut l a k)).headD 0 = 48 ↔ peekF l a = 48 := by
        have hc : cut l a k = peekF l a :: (cut l a k).tail := by
          unfold cut
          rw [List.drop_eq_getElem_cons (show a < l.length by omega), peek_lt (show a < l.length by omega)]
          obtain ⟨m, hm⟩ : ∃ m, k - a = m + 1 := ⟨k - a - 1, by omega⟩
          rw [hm, List.take_succ_cons, List.tail_cons]
        have h1 := hall (peekF l a) (by rw [hc]; simp)
        simp only [inR, Bool.and_eq_true, decide_eq_true_eq] at h1
        rw [hD, hc]
        simp only [List.map_cons, List.headD_cons]
        constructor
        · intro h
          have := congrArg UInt8.toNat h
          rw [UInt8.toNat_ofNat_of_lt' (by simp [UInt8.size]; omega)] at this
          have h48 : (48 : UInt8).toNat = 48 := rfl
          omega
        · intro h; rw [h]; rfl
      have e : (enc (cut l a k) = [] ∨ 1 < (enc (cut l a k)).length ∧ (enc (cut l a k)).headD 0 = 48) ↔ (k = a ∨ a + 1 < k ∧ peekF l a = 48) := by
        rw [hhd, hlen]
        constructor
        · rintro (h | ⟨h1, h2⟩)
          · exact absurd h hne
          · exact Or.inr ⟨by omega, h2⟩
        · rintro (h | ⟨h1, h2⟩)
          · exact absurd h hka
          · exact Or.inr ⟨by omega, h2⟩
      simp only [e]
end Go.Proofs.YtpjocnembjocgaaDoor
