/- What the teller's number and quoted do. -/
import Derived.Test.YtpjocnembjocgaaDoorTell
namespace Go.Proofs.YtpjocnembjocgaaDoor
open Go.RowKit Go.Mi

def isD (l : List Int) (j : Nat) : Prop := ∃ d : Nat, d ≤ 9 ∧ peekF l j = 48 + d

set_option maxHeartbeats 2000000 in
set_option maxRecDepth 100000 in
theorem tnumber_any {w : World} {b i : Nat} {l : List Int} (most : Nat) (hm : most < 18446744073709551616) (h : Scan w b 64 l i 0) (_hl : ∀ r ∈ l, 0 ≤ r ∧ r ≤ 2147483647) :
    Calls Tryd.prog 44 #[.pointer (some ⟨b, 0, none⟩), .int .u64 most] w (NumPost 64 b l (numF most l i) w) := by
  refine post_hid ?_; intro R hR
  obtain ⟨_, c1, c2, f1, f2⟩ := h.cells
  go_enter Tryd.func44, Tryd.ntmps44
  go_wp2_with fail
  refine (tblanks_any h).mono ?_; rintro e w1 ⟨rfl, hS1, hK1⟩
  obtain ⟨_, c1, c2, f1, f2⟩ := hS1.cells
  have ha := hS1.here
  have hal := hS1.len
  have HN := Lib.hid ((numF_eq most l i).trans (numG_way most l (blanksF l i)))
  generalize hN : numF most l i = N at *
  clear hN
  generalize blanksF l i = a at *
  have HV0 := Lib.hid (valV_self l a)
  have HV1 := Lib.hid (fun (j d : Nat) (h1 : a ≤ j) (h2 : j < l.length) (h3 : d ≤ 9) (h4 : peekF l j = 48 + d) => valV_snoc h1 h2 h3 h4)
  have hke := skip_ge (inR 48 57) l a
  generalize hk0 : skipF (inR 48 57) l a = ke at *
  have Hk0 := Lib.hid hk0; clear hk0
  generalize valV l a = V at *
  go_wp2_with fail
  go_loopg [5, 6, 7] (l.length - a) (fun k v5 v6 v7 wr => ∃ (j n : Nat) (ov : Bool), k = l.length - j ∧ v5 = .int .i64 j ∧ v6 = .int .u64 n ∧ v7 = .bool ov ∧ wr = w1 ∧ a ≤ j ∧ j ≤ l.length + 1 ∧ n < 18446744073709551616 ∧ (if ov then 18446744073709551616 ≤ V j else n = V j) ∧ skipF (inR 48 57) l j = ke)
  case atStart => exact ⟨a, 0, false, rfl, rfl, rfl, rfl, rfl, Nat.le_refl _, by omega, by decide, HV0.out.symm, Hk0.out⟩
  case round =>
    obtain ⟨j, n, ov, hk, rfl, rfl, rfl, rfl, haj, hjl, hn, hov, hs⟩ := hrel
    have HOV := Lib.hid hov; clear hov
    have HB := Lib.hid hs; clear hs
    have HK := Lib.hid hk; clear hk
    cases hp : inR 48 57 (peekF l j) with
    | true =>
      have HP := Lib.hid (skip_yes (inR 48 57) rfl l j hp)
      obtain ⟨d, hd, hpd⟩ : ∃ d : Nat, d ≤ 9 ∧ peekF l j = 48 + (d : Int) := by
        simp only [inR, Bool.and_eq_true, decide_eq_true_eq] at hp
        exact ⟨(peekF l j - 48).toNat, by omega, by omega⟩
      have HV := Lib.hid (HV1.out j d haj HP.out.1 hd hpd)
      clear hp
      have hat : Calls Tryd.prog 31 #[.pointer (some ⟨b, 0, none⟩), .int .i64 j] wr fun e w' => e = .returned (.int .i32 (48 + (d : Int))) ∧ wr = w' := by
        have := tat_any hS1 j; rwa [hpd] at this
      have hge : (48 : Int) ≤ 48 + (d : Int) := by omega
      have hle : 48 + (d : Int) ≤ 57 := by omega
      have hw1 : IntKind.i32.wrap (48 + (d : Int) - 48) = d := by rw [IntKind.wrap_i32]; omega
      have hw2 : IntKind.u64.wrap (d : Int) = d := by rw [IntKind.wrap_u64]; omega
      have hw5 : IntKind.u64.wrap (IntKind.u64.wrap ((n : Int) * 10) + (d : Int)) = (((n * 10 + d) % 18446744073709551616 : Nat) : Int) := by
        rw [IntKind.wrap_u64, IntKind.wrap_u64]; omega
      have hw3 : IntKind.u64.wrap (18446744073709551615 - (d : Int)) = 18446744073709551615 - (d : Int) := by rw [IntKind.wrap_u64]; omega
      cases ov with
      | true =>
        have HW := Lib.hid hw5; clear hw5
        go_wp2_with (go_at_call 31; refine hat.mono ?_; rintro e w1 ⟨rfl, rfl⟩)
        go_roundg (l.length - (j + 1))
        case measure => rw [HK.out]; have := HP.out.1; omega
        case rel =>
          have hjl := HP.out.1
          refine ⟨j + 1, (n * 10 + d) % 18446744073709551616, true, rfl, by go_num, by rw [HW.out], rfl, rfl, by omega, by omega, by omega, ?_, by rw [← HB.out, HP.out.2]⟩
          have := HOV.out
          simp only [if_true] at this ⊢
          rw [HV.out]; omega
      | false =>
        have HW := Lib.hid hw5; clear hw5
        go_wp2_with (go_at_call 31; refine hat.mono ?_; rintro e w1 ⟨rfl, rfl⟩)
        go_roundg (l.length - (j + 1))
        case measure => rw [HK.out]; have := HP.out.1; omega
        case rel =>
          have hjl := HP.out.1
          refine ⟨j + 1, (n * 10 + d) % 18446744073709551616, decide ((18446744073709551615 - (d : Int)) / 10 < (n : Int)), rfl, by go_num, by rw [HW.out], rfl, rfl, by omega, by omega, by omega, ?_, by rw [← HB.out, HP.out.2]⟩
          have := HOV.out
          simp only [Bool.false_eq_true, if_false] at this
          rw [HV.out]
          by_cases hq : (18446744073709551615 - (d : Int)) / 10 < (n : Int)
          · rw [decide_eq_true hq, if_pos rfl]; omega
          · rw [decide_eq_false hq, if_neg (by simp)]; omega
    | false =>
      have hje : j = ke := by have := skip_no (inR 48 57) l j hp; have := HB.out; omega
      subst hje
      clear HB HK
      have hcase : (48 ≤ peekF l j ∧ ¬ peekF l j ≤ 57) ∨ (¬ 48 ≤ peekF l j) := by
        simp only [inR, Bool.and_eq_false_iff, decide_eq_false_iff_not] at hp
        omega
      have hway : (((j : Int) == (a : Int)) = true ∧ N = (4, a, 0)) ∨
          (((j : Int) == (a : Int)) = false ∧ (a : Int) + 1 < (j : Int) ∧ (peekF l a == 48) = true ∧ N = (4, a, 0)) ∨
          ((((j : Int) == (a : Int)) = false ∧ ((a : Int) + 1 < (j : Int) ∧ (peekF l a == 48) = false ∨ ¬ (a : Int) + 1 < (j : Int))) ∧
            ((ov = true ∧ N = (12, a, 0)) ∨ (ov = false ∧ (most : Int) < (n : Int) ∧ N = (12, a, 0)) ∨ (ov = false ∧ ¬ (most : Int) < (n : Int) ∧ N = (0, j, n)))) := by
        have h1 := HN.out
        have h2 := HOV.out
        simp only [beq_iff_eq, beq_eq_false_iff_ne]
        by_cases e1 : j = a
        · left; exact ⟨by omega, by rw [h1, if_pos (Or.inl e1)]⟩
        · by_cases e2 : a + 1 < j ∧ peekF l a = 48
          · right; left; exact ⟨by omega, by omega, e2.2, by rw [h1, if_pos (Or.inr e2)]⟩
          · right; right
            rw [if_neg (by rintro (h | h); (· exact e1 h); exact e2 h)] at h1
            refine ⟨⟨by omega, ?_⟩, ?_⟩
            · by_cases e3 : a + 1 < j
              · left; exact ⟨by omega, fun h => e2 ⟨e3, h⟩⟩
              · right; omega
            · cases ov with
              | true => left; rw [if_pos rfl] at h2; exact ⟨rfl, by rw [h1, if_pos (by omega)]⟩
              | false =>
                right
                rw [if_neg (by simp)] at h2
                by_cases e4 : most < n
                · left; exact ⟨rfl, by omega, by rw [h1, if_pos (by omega)]⟩
                · right; exact ⟨rfl, by omega, by rw [h1, if_neg (by omega), h2]⟩
      clear hp HN HOV HV1 HV0 Hk0
      rcases hcase with ⟨hp1, hp2⟩ | hp1
      all_goals
        rcases hway with ⟨e1, hN⟩ | ⟨e1, e2, e3, hN⟩ | ⟨⟨e1, ⟨e2, e3⟩ | e2⟩, ⟨rfl, hN⟩ | ⟨rfl, e4, hN⟩ | ⟨rfl, e4, hN⟩⟩
        all_goals
          have HN := Lib.hid hN
          clear hN
          go_wp2_with (go_at_call 31; refine (tat_any hS1 _).mono ?_; rintro e w1 ⟨rfl, rfl⟩)
          try go_ret
          first
            | exact hR.out _ _ ⟨0, rfl, by rw [HN.out]; exact hS1.set_e _, hK1.trans (Keeps.setCell _ _ _ (fun _ => rfl)), by decide, by rw [HN.out]; intro h; cases h⟩
            | exact hR.out _ _ ⟨n, rfl, by rw [HN.out]; exact hS1.set_i _ (by omega), hK1.trans (Keeps.setCell _ _ _ (fun _ => rfl)), hn, by rw [HN.out]; intro _; rfl⟩
end Go.Proofs.YtpjocnembjocgaaDoor
