/- What the scanner's number does. -/
import Derived.Test.YtpjocnembjocgaaDoorRun
import Derived.Lib.ParseIntBCases
namespace Go.Proofs.YtpjocnembjocgaaDoor
open Go.RowKit Go.Mi

theorem below_bytes (w : World) (s : ByteArray) : Below w.heap.size w (Lib.bytesWorld w 5 s) := Lib.bytesWorld_below _ _ _

/-- ParseUint(s, 10, 64), whatever s is. -/
def PuPost (d : List UInt8) (w : World) (e : Ending) (w' : World) : Prop :=
  ∃ (n : Nat) (er : Value), e = .returned (.tuple #[.int .u64 n, er]) ∧ Below w.heap.size w w' ∧ n < 18446744073709551616 ∧
    ((Lib.parseUintB 64 d = .ok n ∧ er = .nilIface) ∨ ((∀ m, Lib.parseUintB 64 d ≠ .ok m) ∧ ∃ p, er = .iface 125 p))

theorem parseUint_any (d : List UInt8) (hd : d.length ≤ 1000000000) (w : World) (hE : Env w) :
    Calls Tryd.prog 50 #[.string ⟨d.toArray⟩, .int .i64 10, .int .i64 64] w (PuPost d w) := by
  have hsz : (⟨d.toArray⟩ : ByteArray).size = d.length := by simp [ByteArray.size]
  have hl : (⟨d.toArray⟩ : ByteArray).data.toList = d := by simp
  rcases h : Lib.parseUintB 64 d with u | _ | _
  · refine (Tryd.strconv_ParseUint_10_at64_ok ⟨d.toArray⟩ (by omega) u (by rw [hl]; exact h) w).mono ?_
    rintro e w' ⟨rfl, hw⟩
    refine ⟨u, .nilIface, rfl, ?_, ?_, .inl ⟨h, rfl⟩⟩
    · rcases hw with rfl | rfl
      · exact Below.refl _ _
      · exact below_bytes _ _
    · unfold Lib.parseUintB at h
      split at h
      · cases h
      · have := Lib.parseUintM_le _ _ _ _ (Nat.zero_le _) h
        omega
  · obtain ⟨tp, p, hv⟩ := hE.syn
    refine (Any.strconv_ParseUint_10_at64_syntax_var Tryd.laysPu14 ⟨d.toArray⟩ (by omega) (by rw [hl]; exact h) tp p w hv).mono ?_
    rintro e w' ⟨N, rfl, _, _, hb⟩
    exact ⟨0, _, rfl, hb, by omega, .inr ⟨by simp [h], _, rfl⟩⟩
  · obtain ⟨tp, p, hv⟩ := hE.rng
    refine (Tryd.strconv_ParseUint_10_at64_range_var ⟨d.toArray⟩ (by omega) (by rw [hl]; exact h) tp p w hv).mono ?_
    rintro e w' ⟨N, rfl, _, _, hb⟩
    exact ⟨18446744073709551615, _, rfl, hb, by omega, .inr ⟨by simp [h], _, rfl⟩⟩

/-- The post: a number, whatever it is where there is an error. -/
def NumPost (T : TypeId) (b : Nat) (l : List Int) (r : Int × Nat × Nat) (w : World) (e : Ending) (w' : World) : Prop :=
  ∃ n : Nat, e = .returned (.int .u64 n) ∧ Scan w' b T l r.2.1 r.1 ∧ Keeps (· = b) w w' ∧ n < 18446744073709551616 ∧ (r.1 = 0 → n = r.2.2)

theorem number_bad {w : World} {b i : Nat} {l : List Int} {er : Int} (most : Nat) (h : Scan w b 57 l i er) (he : er ≠ 0) :
    Calls Tryd.prog 41 #[.pointer (some ⟨b, 0, none⟩), .int .u64 most] w fun e w' => e = .returned (.int .u64 0) ∧ w = w' := by
  obtain ⟨_, c1, c2, f1, f2⟩ := h.cells
  have he' : (er != 0) = true := by simpa using he
  go_enter Tryd.func41, Tryd.ntmps41
  go_wp2
  try go_ret
  exact ⟨rfl, rfl⟩

/-- The number out of its parts. -/
def numG (most a k : Nat) (d : List UInt8) : Int × Nat × Nat :=
  if d = [] ∨ (1 < d.length ∧ d.headD 0 = 48) then (4, a, 0) else if most < valF 0 d then (12, a, 0) else (0, k, valF 0 d)
theorem numF_eq (most : Nat) (l : List Int) (i : Nat) : numF most l i = numG most (blanksF l i) (skipF (inR 48 57) l (blanksF l i)) (enc (cut l (blanksF l i) (skipF (inR 48 57) l (blanksF l i)))) := rfl

theorem first_not_48 {c : UInt8} {r : List UInt8} (h : ¬ c = 48) : ((((⟨(c :: r).toArray⟩ : ByteArray)[0]'(by simp [ByteArray.size])).toNat : Int) == 48) = false := by
  rw [beq_eq_false_iff_ne]
  intro h'
  apply h
  have h2 : c.toNat = 48 := by
    have : (⟨(c :: r).toArray⟩ : ByteArray)[0]'(by simp [ByteArray.size]) = c := rfl
    rw [this] at h'; omega
  exact UInt8.toNat_inj.1 h2
/-- What the last tests of number ask, way by way. -/
inductive NumWay (most : Nat) (d : List UInt8) (n : Nat) (er : Value) : Prop where
  | empty (h : d = [])
  | zero (h : ∃ r, d = 48 :: r ∧ 0 < r.length)
  | err (h : ∃ c r, d = c :: r) (h0 : d.length ≤ 1 ∨ ¬ (d.headD 0 = 48)) (hp : ∃ p, er = .iface 125 p) (hv : most < valF 0 d)
  | big (h : ∃ c r, d = c :: r) (h0 : d.length ≤ 1 ∨ ¬ (d.headD 0 = 48)) (hp : er = .nilIface) (hn : n = valF 0 d) (hv : most < n)
  | fine (h : ∃ c r, d = c :: r) (h0 : d.length ≤ 1 ∨ ¬ (d.headD 0 = 48)) (hp : er = .nilIface) (hn : n = valF 0 d) (hv : n ≤ most)

theorem numWay (most : Nat) (hm : most < 18446744073709551616) (d : List UInt8) (hd : ∀ c ∈ d, dig c = true) (n : Nat) (er : Value)
    (h : (Lib.parseUintB 64 d = .ok n ∧ er = .nilIface) ∨ ((∀ m, Lib.parseUintB 64 d ≠ .ok m) ∧ ∃ p, er = .iface 125 p)) : NumWay most d n er := by
  match d, hd, h with
  | [], _, _ => exact .empty rfl
  | c :: r, hd, h =>
    obtain ⟨h1, h2⟩ := parseB (c :: r) hd (by simp)
    by_cases h0 : (c :: r).length ≤ 1 ∨ ¬ (List.headD (c :: r) 0 = 48)
    · rcases h with ⟨hp, he⟩ | ⟨hp, he⟩
      · have hv : valF 0 (c :: r) ≤ 18446744073709551615 := by
          rcases Nat.lt_or_ge 18446744073709551615 (valF 0 (c :: r)) with hh | hh
          · rw [h2 hh] at hp; cases hp
          · exact hh
        have hn : n = valF 0 (c :: r) := by rw [h1 hv] at hp; injection hp with hp; exact hp.symm
        rcases Nat.lt_or_ge most n with hh | hh
        · exact .big ⟨c, r, rfl⟩ h0 he hn hh
        · exact .fine ⟨c, r, rfl⟩ h0 he hn hh
      · refine .err ⟨c, r, rfl⟩ h0 he ?_
        rcases Nat.lt_or_ge 18446744073709551615 (valF 0 (c :: r)) with hh | hh
        · omega
        · exact absurd (h1 hh) (hp _)
    · have : c = 48 ∧ 0 < r.length := by
        simp only [List.length_cons, List.headD_cons] at h0
        constructor
        · apply Classical.byContradiction; intro hc; exact h0 (.inr hc)
        · apply Classical.byContradiction; intro hc; exact h0 (.inl (by omega))
      exact .zero ⟨r, by rw [this.1], this.2⟩

set_option maxHeartbeats 1000000 in
set_option maxRecDepth 100000 in
theorem number_any {w : World} {b i : Nat} {l : List Int} (most : Nat) (hm : most < 18446744073709551616) (h : Scan w b 57 l i 0) (hl : ∀ r ∈ l, 0 ≤ r ∧ r ≤ 2147483647) (hE : Env w) (h7 : 7 ≤ b) :
    Calls Tryd.prog 41 #[.pointer (some ⟨b, 0, none⟩), .int .u64 most] w (NumPost 57 b l (numF most l i) w) := by
  refine post_hid ?_; intro R hR
  obtain ⟨_, c1, c2, f1, f2⟩ := h.cells
  go_enter Tryd.func41, Tryd.ntmps41
  go_wp2_with fail
  refine (blanks_any h).mono ?_; rintro e w1 ⟨rfl, hS1, hK1⟩
  obtain ⟨_, c1, c2, f1, f2⟩ := hS1.cells
  have ha := hS1.here
  have hal := hS1.len
  go_wp2_with fail
  refine (run_any 48 57 (by omega) hS1 hl).mono ?_; rintro e w2 ⟨rfl, hS2, hK2⟩
  have hE2 : Env w2 := (hE.keeps hK1 (fun k hk e => by omega)).keeps hK2 (fun k hk e => by omega)
  have HN := Lib.hid (numF_eq most l i)
  have HD := Lib.hid (enc_dig (cut_all (inR 48 57) l (blanksF l i)))
  have hdl := Nat.le_trans (enc_le (cut l (blanksF l i) (skipF (inR 48 57) l (blanksF l i)))) (Nat.mul_le_mul_left 4 (cut_le _ _ _))
  generalize hN : numF most l i = N at *
  clear hN
  generalize blanksF l i = a at *
  generalize skipF (inR 48 57) l a = k at *
  generalize enc (cut l a k) = d at *
  go_wp2_with fail
  refine (parseUint_any d (by omega) w2 hE2).mono ?_
  rintro e w3 ⟨n, er, rfl, hb3, hn, hcase⟩
  have hw := numWay most hm d HD.out n er hcase
  have hS3 := hS2.below hb3 hS2.lt
  have hK3 : Keeps (· = b) w w3 := (hK1.trans hK2).then (Keeps.of_below (M := fun k => w2.heap.size ≤ k) hb3 (fun _ _ h => h)) (fun k hk e => by have := hK1.size; have := hK2.size; omega)
  have HC := Lib.hid hcase
  clear hcase c1 c2 f1 f2 hK1 hK2 hS1
  obtain ⟨_, c1, c2, f1, f2⟩ := hS3.cells
  have hS3a := hS3.set_i a ha
  have hK3a : Keeps (· = b) w (w3.setCell ⟨b, 1, none⟩ (.int .i64 a)) := hK3.trans (Keeps.setCell _ _ _ (fun _ => rfl))
  cases hw with
  | empty hd =>
    subst hd
    have HN' : Hid (N = (4, a, 0)) := Lib.hid (by rw [HN.out]; rfl)
    clear HN
    go_wp2_with fail
    refine (fail_any 4 hS3a).mono ?_; rintro e w4 ⟨rfl, hS4, hK4⟩
    go_wp2
    try go_ret
    exact hR.out _ _ ⟨n, rfl, by rw [HN'.out]; exact hS4, hK3a.trans hK4, hn, by rw [HN'.out]; intro h; cases h⟩
  | zero hd =>
    obtain ⟨r, hd, hr⟩ := hd
    subst hd
    have HN' : Hid (N = (4, a, 0)) := Lib.hid (by rw [HN.out]; unfold numG; rw [if_pos]; right; exact ⟨by simpa using hr, rfl⟩)
    clear HN
    go_wp2_with fail
    refine (fail_any 4 hS3a).mono ?_; rintro e w4 ⟨rfl, hS4, hK4⟩
    go_wp2
    try go_ret
    exact hR.out _ _ ⟨n, rfl, by rw [HN'.out]; exact hS4, hK3a.trans hK4, hn, by rw [HN'.out]; intro h; cases h⟩
  | err hd h0 hp hv =>
    obtain ⟨c, r, hd⟩ := hd
    obtain ⟨p, hp⟩ := hp
    subst hd hp
    have HN' : Hid (N = (12, a, 0)) := Lib.hid (by rw [HN.out]; unfold numG; rw [if_neg (by rintro (h | ⟨h1, h2⟩); (· cases h); rcases h0 with h0 | h0; (· omega); exact h0 h2), if_pos hv])
    clear HN hv
    rw [List.length_cons, List.headD_cons] at h0
    by_cases hr : r.length = 0
    · obtain rfl : r = [] := List.eq_nil_of_length_eq_zero hr
      clear h0
      go_wp2_with fail
      refine (fail_any 12 hS3a).mono ?_; rintro e w4 ⟨rfl, hS4, hK4⟩
      go_wp2
      try go_ret
      exact hR.out _ _ ⟨n, rfl, by rw [HN'.out]; exact hS4, hK3a.trans hK4, hn, by rw [HN'.out]; intro h; cases h⟩
    · have h48 : ((((⟨(c :: r).toArray⟩ : ByteArray)[0]'(by simp [ByteArray.size])).toNat : Int) == 48) = false := by
        rcases h0 with h | h
        · omega
        · exact first_not_48 h
      clear h0
      go_wp2_with fail
      refine (fail_any 12 hS3a).mono ?_; rintro e w4 ⟨rfl, hS4, hK4⟩
      go_wp2
      try go_ret
      exact hR.out _ _ ⟨n, rfl, by rw [HN'.out]; exact hS4, hK3a.trans hK4, hn, by rw [HN'.out]; intro h; cases h⟩
  | big hd h0 hp hn' hv =>
    obtain ⟨c, r, hd⟩ := hd
    subst hd hp
    have HN' : Hid (N = (12, a, 0)) := Lib.hid (by rw [HN.out]; unfold numG; rw [if_neg (by rintro (h | ⟨h1, h2⟩); (· cases h); rcases h0 with h0 | h0; (· omega); exact h0 h2), if_pos (by omega)])
    clear HN hn' HC
    rw [List.length_cons, List.headD_cons] at h0
    by_cases hr : r.length = 0
    · obtain rfl : r = [] := List.eq_nil_of_length_eq_zero hr
      clear h0
      go_wp2_with fail
      refine (fail_any 12 hS3a).mono ?_; rintro e w4 ⟨rfl, hS4, hK4⟩
      go_wp2
      try go_ret
      exact hR.out _ _ ⟨n, rfl, by rw [HN'.out]; exact hS4, hK3a.trans hK4, hn, by rw [HN'.out]; intro h; cases h⟩
    · have h48 : ((((⟨(c :: r).toArray⟩ : ByteArray)[0]'(by simp [ByteArray.size])).toNat : Int) == 48) = false := by
        rcases h0 with h | h
        · omega
        · exact first_not_48 h
      clear h0
      go_wp2_with fail
      refine (fail_any 12 hS3a).mono ?_; rintro e w4 ⟨rfl, hS4, hK4⟩
      go_wp2
      try go_ret
      exact hR.out _ _ ⟨n, rfl, by rw [HN'.out]; exact hS4, hK3a.trans hK4, hn, by rw [HN'.out]; intro h; cases h⟩
  | fine hd h0 hp hn' hv =>
    obtain ⟨c, r, hd⟩ := hd
    subst hd hp
    have HN' : Hid (N = (0, k, n)) := Lib.hid (by rw [HN.out]; unfold numG; rw [if_neg (by rintro (h | ⟨h1, h2⟩); (· cases h); rcases h0 with h0 | h0; (· omega); exact h0 h2), if_neg (by omega), hn'])
    clear HN hn' HC
    rw [List.length_cons, List.headD_cons] at h0
    by_cases hr : r.length = 0
    · obtain rfl : r = [] := List.eq_nil_of_length_eq_zero hr
      clear h0
      go_wp2
      try go_ret
      exact hR.out _ _ ⟨n, rfl, by rw [HN'.out]; exact hS3, hK3, hn, by rw [HN'.out]; intro _; rfl⟩
    · have h48 : ((((⟨(c :: r).toArray⟩ : ByteArray)[0]'(by simp [ByteArray.size])).toNat : Int) == 48) = false := by
        rcases h0 with h | h
        · omega
        · exact first_not_48 h
      clear h0
      go_wp2
      try go_ret
      exact hR.out _ _ ⟨n, rfl, by rw [HN'.out]; exact hS3, hK3, hn, by rw [HN'.out]; intro _; rfl⟩
end Go.Proofs.YtpjocnembjocgaaDoor
