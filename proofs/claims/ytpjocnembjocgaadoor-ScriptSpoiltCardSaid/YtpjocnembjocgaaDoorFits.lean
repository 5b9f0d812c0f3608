/- The steps that Parse gives are such as may be. -/
import Derived.Test.YtpjocnembjocgaaDoorLine
import Derived.Test.YtpjocnembjocgaaDoorParse
namespace Go.Proofs.YtpjocnembjocgaaDoor

theorem enc_cut_le (l : List Int) (i j : Nat) : (enc (cut l i j)).length ≤ 4 * l.length := Nat.le_trans (enc_le _) (Nat.mul_le_mul_left 4 (cut_le l i j))
theorem quoE_len (l : List Int) (er : Int) (i : Nat) : (quoE l er i).2.2.length ≤ 4 * l.length := by
  unfold quoE
  split
  · rw [quoF_eq]; unfold quoG
    have := enc_cut_le l (blanksF l i + 1) (skipF notq l (blanksF l i + 1))
    split
    · split
      · exact this
      · simp
    · simp
  · simp
theorem step_fits (l : List Int) (i : Nat) (hl : l.length ≤ 1000000) (h : (stepF l i).1 = 0) : (stepF l i).2.2 ≠ .none ∧ (stepF l i).2.2.fits := by
  rw [stepF_eq] at h ⊢
  generalize skipF (inR 97 122) l i = k at *
  generalize enc (cut l i k) = d at *
  have ha := numE_le mostN l 0 k
  have hb := numE_le mostN l (numE mostN l 0 k).1 (numE mostN l 0 k).2.1
  have hc := numE_le 18446744073709551615 l (numE mostN l 0 k).1 (numE mostN l 0 k).2.1
  have hd := quoE_len l (numE mostN l 0 k).1 (numE mostN l 0 k).2.1
  unfold stepG at h ⊢
  simp only [] at h ⊢
  generalize numE mostN l 0 k = A at *
  generalize numE mostN l A.1 A.2.1 = B at *
  generalize numE 18446744073709551615 l A.1 A.2.1 = C at *
  generalize quoE l A.1 A.2.1 = D at *
  unfold mostN at *
  by_cases d0 : d = wWrite
  · rw [if_pos d0]; exact ⟨(fun h => by cases h), by show A.2.2 ≤ _; omega, by show D.2.2.length ≤ _; omega⟩
  rw [if_neg d0] at h ⊢
  by_cases d1 : d = wRead
  · rw [if_pos d1]; exact ⟨(fun h => by cases h), by show A.2.2 ≤ _; omega⟩
  rw [if_neg d1] at h ⊢
  by_cases d2 : d = wTrim
  · rw [if_pos d2]; exact ⟨(fun h => by cases h), by show A.2.2 ≤ _; omega⟩
  rw [if_neg d2] at h ⊢
  by_cases d3 : d = wFlush ∨ d = wCkpt ∨ d = wRebuild ∨ d = wCheck
  · rw [if_pos d3]; exact ⟨(fun h => by cases h), by show d.length ≤ _; rcases d3 with rfl | rfl | rfl | rfl <;> decide⟩
  rw [if_neg d3] at h ⊢
  by_cases d4 : d = wGreedy ∨ d = wWorth
  · rw [if_pos d4]; exact ⟨(fun h => by cases h), by show A.2.2 ≤ _; omega⟩
  rw [if_neg d4] at h ⊢
  by_cases d5 : d = wFail ∨ d = wReplace
  · rw [if_pos d5]; exact ⟨(fun h => by cases h), by show d.length ≤ _; rcases d5 with rfl | rfl <;> decide, by show A.2.2 ≤ _; omega⟩
  rw [if_neg d5] at h ⊢
  by_cases d6 : d = wFailat
  · rw [if_pos d6]; exact ⟨(fun h => by cases h), by show A.2.2 ≤ _; omega, by show B.2.2 ≤ _; omega⟩
  rw [if_neg d6] at h ⊢
  by_cases d7 : d = wCrash
  · rw [if_pos d7]; exact ⟨(fun h => by cases h), by show A.2.2 ≤ _; omega, by show C.2.2 < _; omega⟩
  rw [if_neg d7] at h
  exact absurd (show (11 : Int) = 0 from h) (by decide)

theorem parseL_fits (l : List Int) (hl : l.length ≤ 1000000) : ∀ (f i : Nat) (acc : List St), (∀ s ∈ acc, s ≠ .none ∧ s.fits) → ∀ s ∈ (parseL l f i acc).1, s ≠ .none ∧ s.fits := by
  intro f
  induction f with
  | zero => intro i acc h; exact h
  | succ f ih =>
    intro i acc h
    rw [parseL]
    split
    · split
      · exact ih _ _ h
      · split
        · intro s hs; cases hs
        · split
          · rename_i h0
            split
            · refine ih _ _ (fun s hs => ?_)
              rcases List.mem_append.1 hs with hs | hs
              · exact h s hs
              · rw [List.mem_singleton.1 hs]; exact step_fits l _ hl h0
            · intro s hs; cases hs
          · intro s hs; cases hs
    · exact h
theorem parseL_len (l : List Int) : ∀ (f i : Nat) (acc : List St), acc.length ≤ 4096 → (parseL l f i acc).1.length ≤ 4096 := by
  intro f
  induction f with
  | zero => intro i acc h; exact h
  | succ f ih =>
    intro i acc h
    rw [parseL]
    split
    · split
      · exact ih _ _ h
      · split
        · exact Nat.zero_le _
        · rename_i hne
          split
          · split
            · exact ih _ _ (by simp; omega)
            · exact Nat.zero_le _
          · exact Nat.zero_le _
    · exact h
theorem parse_fits (s : ByteArray) : ∀ x ∈ (parseF s).1, x ≠ .none ∧ x.fits := by
  unfold parseF
  split
  · intro s hs; cases hs
  · split
    · intro s hs; cases hs
    · exact parseL_fits _ (by have := signs_len s; omega) _ _ _ (fun s hs => by cases hs)
theorem parse_len (s : ByteArray) : (parseF s).1.length ≤ 4096 := by
  unfold parseF
  split
  · exact Nat.zero_le _
  · split
    · exact Nat.zero_le _
    · exact parseL_len _ _ _ _ (Nat.zero_le _)
end Go.Proofs.YtpjocnembjocgaaDoor
