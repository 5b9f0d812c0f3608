/- What the teller's quoted does. -/
import Derived.Test.YtpjocnembjocgaaDoorTellNum
namespace Go.Proofs.YtpjocnembjocgaaDoor
open Go.RowKit Go.Mi

theorem Scan.row2 {w : World} {b T i : Nat} {l : List Int} {e : Int} (h : Scan w b T l i e) (hne : 0 < l.length) :
    ∃ g cap, w.cell? ⟨b, 0, none⟩ = some (.slice (some ⟨g, 0, none⟩) l.length cap) ∧ l.length ≤ cap ∧ cap ≤ maxLen ∧ ∀ k, k < l.length → w.cell? ⟨g, k, none⟩ = some (.int .i32 (peekF l k)) := by
  obtain ⟨h1, h2, v, hv, ⟨base, ho⟩, hn⟩ := h
  have h0 : w.cell? ⟨b, 0, none⟩ = some v := by rw [cell_blk hv]; rfl
  rcases ho.2 with ⟨rfl, hl⟩ | ⟨g, cap, cur, rfl, hb, hg, hc, hm, hs, ht⟩
  · omega
  · refine ⟨g, cap, h0, hc, hm, fun k hk => ?_⟩
    have := ho.cells (g := g) rfl k (.int .i32 (peekF l k)) (by simp [peek_lt hk, hk])
    rwa [show (⟨g, 0, none⟩ : Addr).add k = ⟨g, k, none⟩ by unfold Addr.add; split <;> simp_all] at this

theorem cut_get (l : List Int) (i j m : Nat) (hm : m < (cut l i j).length) : (cut l i j).getD m 0 = peekF l (i + m) := by
  have h1 : m < (cut l i j).length := hm
  have h2 : i + m < l.length := by unfold cut at h1; simp at h1; omega
  rw [peek_lt h2, List.getD_eq_getElem?_getD, List.getElem?_eq_getElem h1]
  simp [cut]
theorem cut_conv {w : World} {l : List Int} {g i j c : Nat} (hl : ∀ r ∈ l, 0 ≤ r ∧ r ≤ 2147483647) (hj : j ≤ l.length) (hc : ∀ k, k < l.length → w.cell? ⟨g, k, none⟩ = some (.int .i32 (peekF l k))) :
    (convert 52 9 (.slice (some ⟨g, i, none⟩) (j - i) c)).run Tryd.prog w = .ok (.string ⟨(enc (cut l i j)).toArray⟩) w := by
  have hlen : (cut l i j).length = j - i := cut_length hj
  have h := run_convert_runes (P := Tryd.prog) w 52 9 21 ⟨g, i, none⟩ (j - i) c (cut l i j) (by omega) Tryd.underlying52 Tryd.underlying21 Tryd.underlying9 (fun m hm => by
    rw [Lib.add_plain, cut_get l i j m hm]
    exact hc (i + m) (by omega))
  rw [← hlen, List.take_length, runesBytes_enc _ (fun r hr => (hl r (by unfold cut at hr; exact List.mem_of_mem_drop (List.mem_of_mem_take hr))).1)] at h
  rw [← hlen]; exact h

theorem cut_nil (l : List Int) (i j : Nat) (h : j ≤ i) : cut l i j = [] := by unfold cut; rw [show j - i = 0 by omega]; rfl
theorem cut_slice {w : World} {l : List Int} {g cap i j : Nat} (hl : ∀ r ∈ l, 0 ≤ r ∧ r ≤ 2147483647) (hij : i ≤ j) (hj : j ≤ l.length) (hcap : l.length ≤ cap)
    (hc : ∀ k, k < l.length → w.cell? ⟨g, k, none⟩ = some (.int .i32 (peekF l k))) :
    (cap = i → ∀ m, (convert 52 9 (.slice (some ⟨g, 0, none⟩) (j - i) (cap - i))).run Tryd.prog (w.drewN m) = .ok (.string ⟨(enc (cut l i j)).toArray⟩) (w.drewN m)) ∧
    (¬ cap = i → ∀ m, (convert 52 9 (.slice (some ⟨g, i, none⟩) (j - i) (cap - i))).run Tryd.prog (w.drewN m) = .ok (.string ⟨(enc (cut l i j)).toArray⟩) (w.drewN m)) := by
  refine ⟨fun h m => ?_, fun _ m => cut_conv (w := w.drewN m) hl hj hc⟩
  have := cut_conv (w := w.drewN m) (g := g) (i := 0) (j := 0) (c := cap - i) hl (Nat.zero_le _) hc
  rw [cut_nil _ _ _ (Nat.le_refl _)] at this
  rw [cut_nil _ _ _ (by omega), show j - i = 0 - 0 by omega]
  exact this

theorem tquoted_bad {w : World} {b i : Nat} {l : List Int} {er : Int} (h : Scan w b 64 l i er) (he : er ≠ 0) :
    Calls Tryd.prog 45 #[.pointer (some ⟨b, 0, none⟩)] w fun e w' => e = .returned (.string ⟨#[]⟩) ∧ w = w' := by
  obtain ⟨_, c1, c2, f1, f2⟩ := h.cells
  have he' : (er != 0) = true := by simpa using he
  go_enter Tryd.func45, Tryd.ntmps45
  go_wp2
  try go_ret
  exact ⟨rfl, rfl⟩

set_option maxHeartbeats 2000000 in
set_option maxRecDepth 100000 in
theorem tquoted_any {w : World} {b i : Nat} {l : List Int} (h : Scan w b 64 l i 0) (hl : ∀ r ∈ l, 0 ≤ r ∧ r ≤ 2147483647) :
    Calls Tryd.prog 45 #[.pointer (some ⟨b, 0, none⟩)] w (QuoPost 64 b l (quoF l i) w) := by
  refine post_hid ?_; intro R hR
  obtain ⟨_, c1, c2, f1, f2⟩ := h.cells
  have HN := Lib.hid (quoF_eq l i)
  generalize hN : quoF l i = N at *
  clear hN
  go_enter Tryd.func45, Tryd.ntmps45
  go_wp2_with fail
  refine (tblanks_any h).mono ?_; rintro e w1 ⟨rfl, hS1, hK1⟩
  obtain ⟨_, c1, c2, f1, f2⟩ := hS1.cells
  have ha := hS1.here
  have hal := hS1.len
  generalize blanksF l i = a at *
  have h10 : notq 10 = false := rfl
  by_cases hq : peekF l a = 34
  · have hq' : (peekF l a != 34) = false := by simp [hq]
    have hal2 : a < l.length := by
      rcases Nat.lt_or_ge a l.length with hh | hh
      · exact hh
      · rw [peek_ge hh] at hq; cases hq
    obtain ⟨g, cap, c0, hcap, hcm, hcell⟩ := hS1.row2 (by omega)
    have Hq := Lib.hid hq
    clear hq
    go_wp2_with (go_at_call 31; refine (tat_any hS1 _).mono ?_; rintro e w1 ⟨rfl, rfl⟩)
    go_loopg [3] (l.length - (a + 1)) (fun k v wr => ∃ j, k = l.length - j ∧ v = .int .i64 j ∧ wr = w1 ∧ a + 1 ≤ j ∧ j ≤ l.length ∧ skipF notq l j = skipF notq l (a + 1))
    case atStart => exact ⟨a + 1, rfl, by go_num, rfl, Nat.le_refl _, by omega, rfl⟩
    case round =>
      obtain ⟨j, hk, rfl, rfl, hij, hj, hB⟩ := hrel
      have HB := Lib.hid hB; clear hB
      have HK := Lib.hid hk; clear hk
      cases hp : notq (peekF l j) with
      | true =>
        have HP := Lib.hid (skip_yes notq h10 l j hp)
        have hp1 : (peekF l j != 34) = true := by simp [notq] at hp; simp [hp.1]
        have hp2 : (peekF l j != 10) = true := by simp [notq] at hp; simp [hp.2]
        clear hp
        go_wp2_with (go_at_call 31; refine (tat_any hS1 _).mono ?_; rintro e w1 ⟨rfl, rfl⟩)
        go_roundg (l.length - (j + 1))
        case measure => rw [HK.out]; have := HP.out.1; omega
        case rel =>
          have hjl := HP.out.1
          exact ⟨j + 1, rfl, by go_num, rfl, by omega, by omega, by rw [← HB.out, HP.out.2]⟩
      | false =>
        have HP := Lib.hid (skip_no notq l j hp)
        have hwa : IntKind.i64.wrap ((a : Int) + 1) = (a : Int) + 1 := by rw [IntKind.wrap_i64]; omega
        have hcvs := cut_slice (w := wr) (g := g) (i := a + 1) (j := j) (cap := cap) hl hij hj hcap hcell
        have hjc : j ≤ cap := Nat.le_trans hj hcap
        by_cases hp1 : peekF l j = 34
        · have hp1' : (peekF l j != 34) = false := by simp [hp1]
          have HN' : Hid (N = (0, j + 1, enc (cut l (a + 1) j))) := Lib.hid (by rw [HN.out, ← HB.out, HP.out]; unfold quoG; rw [if_pos Hq.out, if_pos hp1])
          have hjl : j < l.length := by
            rcases Nat.lt_or_ge j l.length with hh | hh
            · exact hh
            · rw [peek_ge hh] at hp1; cases hp1
          have hca : ¬ cap = a + 1 := by omega
          have hcv := hcvs.2 hca
          clear hp hp1 HN hcvs
          go_wp2_with (go_at_call 31; refine (tat_any hS1 _).mono ?_; rintro e w1 ⟨rfl, rfl⟩)
          go_quiet (fail)
          obtain ⟨_, c1, c2, f1, f2⟩ := (hS1.drewN nq).cells
          have hSj := (hS1.drewN nq).set_i j (by omega)
          have hKj : Keeps (· = b) w ((wr.drewN nq).setCell ⟨b, 1, none⟩ (.int .i64 j)) := (hK1.trans (Keeps.drewN _ _)).trans (Keeps.setCell _ _ _ (fun _ => rfl))
          obtain ⟨_, d1, d2, g1, g2⟩ := hSj.cells
          go_wp2_with (go_at_call 31; refine (tat_any hSj _).mono ?_; rintro e w1 ⟨rfl, rfl⟩)
          try go_ret
          exact hR.out _ _ ⟨by rw [HN'.out]; rfl, by rw [HN'.out]; exact hSj.set_i (j + 1) (by omega), hKj.trans (Keeps.setCell _ _ _ (fun _ => rfl))⟩
        · have hp1' : (peekF l j != 34) = true := by simp [hp1]
          have hp2' : (peekF l j != 10) = false := by simp [notq] at hp; simp [hp hp1]
          have HN' : Hid (N = (4, j, [])) := Lib.hid (by rw [HN.out, ← HB.out, HP.out]; unfold quoG; rw [if_pos Hq.out, if_neg hp1])
          clear hp hp1 HN
          by_cases hca : cap = a + 1
          · obtain rfl : j = a + 1 := by omega
            subst hca
            have hcv : ∀ m, _ := fun m => cut_conv (w := wr.drewN m) (g := g) (i := 0) (j := 0) (c := 0) hl (Nat.zero_le _) hcell
            have ew := @Nat.sub_self (a + 1)
            clear hcvs
            go_wp2_with (go_at_call 31; refine (tat_any hS1 _).mono ?_; rintro e w1 ⟨rfl, rfl⟩)
            go_quiet (fail)
            obtain ⟨_, c1, c2, f1, f2⟩ := (hS1.drewN nq).cells
            have hSj := (hS1.drewN nq).set_i (a + 1) (by omega)
            have hKj : Keeps (· = b) w ((wr.drewN nq).setCell ⟨b, 1, none⟩ (.int .i64 (a + 1 : Nat))) := (hK1.trans (Keeps.drewN _ _)).trans (Keeps.setCell _ _ _ (fun _ => rfl))
            obtain ⟨_, d1, d2, g1, g2⟩ := hSj.cells
            go_wp2_with (go_at_call 31; refine (tat_any hSj _).mono ?_; rintro e w1 ⟨rfl, rfl⟩)
            try go_ret
            exact hR.out _ _ ⟨by rw [HN'.out]; rfl, by rw [HN'.out]; exact hSj.set_e 4, hKj.trans (Keeps.setCell _ _ _ (fun _ => rfl))⟩
          · have hcv := hcvs.2 hca
            clear hcvs
            go_wp2_with (go_at_call 31; refine (tat_any hS1 _).mono ?_; rintro e w1 ⟨rfl, rfl⟩)
            go_quiet (fail)
            obtain ⟨_, c1, c2, f1, f2⟩ := (hS1.drewN nq).cells
            have hSj := (hS1.drewN nq).set_i j (by omega)
            have hKj : Keeps (· = b) w ((wr.drewN nq).setCell ⟨b, 1, none⟩ (.int .i64 j)) := (hK1.trans (Keeps.drewN _ _)).trans (Keeps.setCell _ _ _ (fun _ => rfl))
            obtain ⟨_, d1, d2, g1, g2⟩ := hSj.cells
            go_wp2_with (go_at_call 31; refine (tat_any hSj _).mono ?_; rintro e w1 ⟨rfl, rfl⟩)
            try go_ret
            exact hR.out _ _ ⟨by rw [HN'.out]; rfl, by rw [HN'.out]; exact hSj.set_e 4, hKj.trans (Keeps.setCell _ _ _ (fun _ => rfl))⟩
  · have hq' : (peekF l a != 34) = true := by simp [hq]
    have HN' : Hid (N = (4, a, [])) := Lib.hid (by rw [HN.out]; unfold quoG; rw [if_neg hq])
    clear HN hq
    go_wp2_with (go_at_call 31; refine (tat_any hS1 _).mono ?_; rintro e w1 ⟨rfl, rfl⟩)
    try go_ret
    exact hR.out _ _ ⟨by rw [HN'.out]; rfl, by rw [HN'.out]; exact hS1.set_e 4, hK1.trans (Keeps.setCell _ _ _ (fun _ => rfl))⟩
end Go.Proofs.YtpjocnembjocgaaDoor
