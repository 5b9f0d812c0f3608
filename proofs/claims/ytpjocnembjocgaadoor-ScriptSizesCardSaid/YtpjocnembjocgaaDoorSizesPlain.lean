/- Plain: what Parse gives of blanks alone, and of many lines 'flush'. -/
import Derived.Test.YtpjocnembjocgaaDoorSuf
namespace Go.Proofs.YtpjocnembjocgaaDoor

def asInts (l : List UInt8) : List Int := l.map fun c => (c.toNat : Int)
theorem signsF_ascii (l : List UInt8) (h : ∀ c ∈ l, c.toNat < 128) : ∀ (f pos : Nat), l.length < f + pos → signsF ⟨l.toArray⟩ f pos = (asInts (l.drop pos), true) := by
  have hsz : (⟨l.toArray⟩ : ByteArray).size = l.length := by simp [ByteArray.size]
  intro f
  induction f with
  | zero => intro pos hp; rw [List.drop_eq_nil_of_le (by omega)]; rfl
  | succ f ih =>
    intro pos hp
    rw [signsF]
    by_cases hlt : pos < l.length
    · rw [if_pos (by omega)]
      have hget : ((⟨l.toArray⟩ : ByteArray)[pos]'(by omega)) = l[pos] := by simp [ByteArray.getElem_eq_getElem_data]
      have hd := decode_ascii ⟨l.toArray⟩ pos (by omega) (by rw [hget]; exact h _ (List.getElem_mem hlt))
      rw [hget] at hd
      rw [hd, List.drop_eq_getElem_cons hlt]
      have hne : ¬ (l[pos].toNat = 65533 ∧ 1 = 1) := by have := h _ (List.getElem_mem hlt); omega
      rw [if_neg hne, ih (pos + 1) (by omega)]
      rfl
    · rw [if_neg (by omega), List.drop_eq_nil_of_le (by omega)]; rfl
theorem signs_ascii (l : List UInt8) (h : ∀ c ∈ l, c.toNat < 128) : signsOf ⟨l.toArray⟩ = (asInts l, true) := by
  have := signsF_ascii l h ((⟨l.toArray⟩ : ByteArray).size + 1) 0 (by simp [ByteArray.size])
  rw [List.drop_zero] at this
  exact this

theorem parse_spaces (m : Nat) (hm : m ≤ 65536) : parseF ⟨(List.replicate m (32 : UInt8)).toArray⟩ = ([], 0, 0) := by
  have hs := signs_ascii (List.replicate m (32 : UInt8)) (fun c hc => by rw [List.eq_of_mem_replicate hc]; decide)
  rw [parseF_suf _ (by simp [ByteArray.size]; exact hm) (by rw [hs]), hs]
  have e : asInts (List.replicate m (32 : UInt8)) = List.replicate m (32 : Int) := by simp [asInts]
  simp only [e]
  rw [parseS]
  by_cases h0 : m = 0
  · subst h0; rfl
  · have hne : ¬ List.replicate m (32 : Int) = [] := by simp [h0]
    rw [if_neg hne]
    have hnb : nb (List.replicate m (32 : Int)) = m := by unfold nb nS; simp
    simp only [hnb]
    rw [List.drop_eq_nil_of_le (by simp)]
    rw [if_pos (by rfl)]
    obtain ⟨k, hk⟩ : ∃ k, (List.replicate m (32 : Int)).length = k + 1 := ⟨m - 1, by simp; omega⟩
    rw [hk]; rfl
theorem parse_long (s : ByteArray) (h : 65536 < s.size) : parseF s = ([], 0, 6) := by unfold parseF; rw [if_pos h]

def flushL : List UInt8 := [102, 108, 117, 115, 104, 10]
def flushI : List Int := [102, 108, 117, 115, 104, 10]
theorem step_flush (u : List Int) : stepS (flushI ++ u) = (0, 5, .plain wFlush) := by
  have hk : nS (inR 97 122) (flushI ++ u) = 5 := by simp [nS, flushI, inR]
  unfold stepS
  rw [hk]
  have hd : enc (List.take 5 (flushI ++ u)) = wFlush := by kernel_rfl
  rw [hd]
  unfold stepSG
  rw [if_neg (by decide), if_neg (by decide), if_neg (by decide), if_pos (Or.inl rfl)]
theorem parse_flushes (n : Nat) : ∀ (f i : Nat) (acc : List St), 6 * n < f → acc.length ≤ 4096 →
    parseS f ((List.replicate n flushI).flatten) i acc = if acc.length + n ≤ 4096 then (acc ++ List.replicate n (.plain wFlush), 0, 0) else ([], i + 6 * (4096 - acc.length), 6) := by
  induction n with
  | zero =>
    intro f i acc hf ha
    rw [if_pos (by omega)]
    obtain ⟨g, rfl⟩ : ∃ g, f = g + 1 := ⟨f - 1, by omega⟩
    simp [parseS]
  | succ n ih =>
    intro f i acc hf ha
    obtain ⟨g, rfl⟩ : ∃ g, f = g + 1 := ⟨f - 1, by omega⟩
    have e : (List.replicate (n + 1) flushI).flatten = flushI ++ (List.replicate n flushI).flatten := by rw [List.replicate_succ, List.flatten_cons]
    rw [e]
    generalize hu : (List.replicate n flushI).flatten = u at *
    have hnb : nb (flushI ++ u) = 0 := rfl
    have hstep : parseS (g + 1) (flushI ++ u) i acc = if acc.length = 4096 then ([], i, 6) else parseS g u (i + 6) (acc ++ [.plain wFlush]) := by
      rw [parseS, if_neg (by simp [flushI])]
      simp only [hnb, List.drop_zero, Nat.add_zero]
      rw [if_neg (by show ¬ (102 : Int) = 10; decide)]
      by_cases h4 : acc.length = 4096
      · rw [if_pos h4, if_pos h4]
      · rw [if_neg h4, if_neg h4, step_flush]
        rfl
    rw [hstep]
    by_cases h4 : acc.length = 4096
    · rw [if_pos h4, if_neg (by omega), h4]; simp
    · rw [if_neg h4, ih g (i + 6) (acc ++ [St.plain wFlush]) (by omega) (by simp; omega)]
      rw [List.length_append, List.length_singleton]
      by_cases h5 : acc.length + (n + 1) ≤ 4096
      · rw [if_pos (by omega), if_pos h5, List.append_assoc]
        rfl
      · rw [if_neg (by omega), if_neg h5]
        congr 2
        omega

theorem flat_length {α : Type} (l : List α) (n : Nat) : ((List.replicate n l).flatten).length = n * l.length := by
  induction n with
  | zero => simp
  | succ n ih => rw [List.replicate_succ, List.flatten_cons, List.length_append, ih, Nat.add_mul]; omega

theorem parse_many (n : Nat) (hn : n ≤ 4200) : parseF ⟨((List.replicate n flushL).flatten).toArray⟩ = if n ≤ 4096 then (List.replicate n (.plain wFlush), 0, 0) else ([], 24576, 6) := by
  have hlen : ((List.replicate n flushL).flatten).length = 6 * n := by rw [flat_length]; show n * 6 = 6 * n; omega
  have hs := signs_ascii ((List.replicate n flushL).flatten) (fun c hc => by
    obtain ⟨l, hl, hc⟩ := List.mem_flatten.1 hc
    rw [List.eq_of_mem_replicate hl] at hc
    simp only [flushL, List.mem_cons, List.not_mem_nil, or_false] at hc
    rcases hc with rfl | rfl | rfl | rfl | rfl | rfl <;> decide)
  have hsz : (⟨((List.replicate n flushL).flatten).toArray⟩ : ByteArray).size = 6 * n := by simp only [ByteArray.size, List.size_toArray]; exact hlen
  rw [parseF_suf _ (by omega) (by rw [hs]), hs]
  have e : asInts ((List.replicate n flushL).flatten) = (List.replicate n flushI).flatten := by
    unfold asInts; rw [List.map_flatten, List.map_replicate]; rfl
  simp only [e]
  have hl2 : ((List.replicate n flushI).flatten).length = 6 * n := by rw [← e]; unfold asInts; rw [List.length_map]; exact hlen
  rw [hl2, parse_flushes n (6 * n + 1) 0 [] (by omega) (by simp)]
  by_cases h : n ≤ 4096
  · rw [if_pos (by simpa using h), if_pos h]; rfl
  · rw [if_neg (by simpa using h), if_neg h]; rfl
end Go.Proofs.YtpjocnembjocgaaDoor
