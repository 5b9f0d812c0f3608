/- What the teller's step does. -/
import Derived.Test.YtpjocnembjocgaaDoorTellQuo
import Derived.Deep.CutBlock
import Derived.Deep.DeepCutAuto
namespace Go.Proofs.YtpjocnembjocgaaDoor
open Go.RowKit Go.Mi

theorem tnumber_gen {w : World} {b i : Nat} {l : List Int} {er : Int} (most : Nat) (hm : most < 18446744073709551616) (h : Scan w b 64 l i er) (hl : ∀ r ∈ l, 0 ≤ r ∧ r ≤ 2147483647) :
    Calls Tryd.prog 44 #[.pointer (some ⟨b, 0, none⟩), .int .u64 most] w (NumPost 64 b l (numE most l er i) w) := by
  by_cases he : er = 0
  · subst he; unfold numE; rw [if_pos rfl]; exact tnumber_any most hm h hl
  · unfold numE; rw [if_neg he]
    refine (tnumber_bad most h he).mono ?_
    rintro e w' ⟨rfl, rfl⟩
    exact ⟨0, rfl, h, Keeps.refl _, by omega, fun _ => rfl⟩
theorem tquoted_gen {w : World} {b i : Nat} {l : List Int} {er : Int} (h : Scan w b 64 l i er) (hl : ∀ r ∈ l, 0 ≤ r ∧ r ≤ 2147483647) :
    Calls Tryd.prog 45 #[.pointer (some ⟨b, 0, none⟩)] w (QuoPost 64 b l (quoE l er i) w) := by
  by_cases he : er = 0
  · subst he; unfold quoE; rw [if_pos rfl]; exact tquoted_any h hl
  · unfold quoE; rw [if_neg he]
    refine (tquoted_bad h he).mono ?_
    rintro e w' ⟨rfl, rfl⟩
    exact ⟨rfl, h, Keeps.refl _⟩

theorem Scan.row3 {w : World} {b T i : Nat} {l : List Int} {e : Int} (h : Scan w b T l i e) :
    (l = [] ∧ w.cell? ⟨b, 0, none⟩ = some (.slice none 0 0)) ∨
    ∃ g cap, w.cell? ⟨b, 0, none⟩ = some (.slice (some ⟨g, 0, none⟩) l.length cap) ∧ l.length ≤ cap ∧ cap ≤ maxLen ∧ ∀ k, k < l.length → w.cell? ⟨g, k, none⟩ = some (.int .i32 (peekF l k)) := by
  obtain ⟨h1, h2, v, hv, ⟨base, ho⟩, hn⟩ := h
  have h0 : w.cell? ⟨b, 0, none⟩ = some v := by rw [cell_blk hv]; rfl
  rcases ho.2 with ⟨rfl, hl⟩ | ⟨g, cap, cur, rfl, hb, hg, hc, hm, hs, ht⟩
  · exact .inl ⟨List.eq_nil_of_length_eq_zero hl, h0⟩
  · refine .inr ⟨g, cap, h0, hc, hm, fun k hk => ?_⟩
    have := ho.cells (g := g) rfl k (.int .i32 (peekF l k)) (by simp [peek_lt hk, hk])
    rwa [show (⟨g, 0, none⟩ : Addr).add k = ⟨g, k, none⟩ by unfold Addr.add; split <;> simp_all] at this

set_option maxHeartbeats 4000000 in
set_option maxRecDepth 100000 in
theorem tstep_any {w : World} {b i : Nat} {l : List Int} (h : Scan w b 64 l i 0) (hi : i ≤ l.length) (hl : ∀ r ∈ l, 0 ≤ r ∧ r ≤ 2147483647) :
    Calls Tryd.prog 32 #[.pointer (some ⟨b, 0, none⟩)] w (StepPost 64 b l (stepF l i) w) := by
  refine post_hid ?_; intro R hR
  obtain ⟨_, c1, c2, f1, f2⟩ := h.cells
  have hll := h.len
  have HN := Lib.hid (stepF_eq l i)
  generalize hN : stepF l i = N at *
  clear hN
  go_enter Tryd.func32, Tryd.ntmps32
  go_upto_block 0 with fail
  go_cut [3] from 13 to 24 (fun v wx => v = .int .i64 (skipF (inR 97 122) l i) ∧ w = wx)
  case first =>
    go_wp2_with fail
    go_loopg [3] (l.length - i) (fun k v wr => ∃ j, k = l.length - j ∧ v = .int .i64 j ∧ wr = w ∧ i ≤ j ∧ j ≤ l.length ∧ skipF (inR 97 122) l j = skipF (inR 97 122) l i)
    case atStart => exact ⟨i, rfl, rfl, rfl, Nat.le_refl _, hi, rfl⟩
    case round =>
      obtain ⟨j, hk, rfl, rfl, hij, hj, hB⟩ := hrel
      have HB := Lib.hid hB; clear hB
      have HK := Lib.hid hk; clear hk
      cases hp : inR 97 122 (peekF l j) with
      | true =>
        have HP := Lib.hid (skip_yes (inR 97 122) rfl l j hp)
        have hp1 : (97 : Int) ≤ peekF l j := by simp [inR] at hp; exact hp.1
        have hp2 : peekF l j ≤ 122 := by simp [inR] at hp; exact hp.2
        clear hp
        go_wp2_with (go_at_call 31; refine (tat_any h _).mono ?_; rintro e w1 ⟨rfl, rfl⟩)
        go_roundg (l.length - (j + 1))
        case measure => rw [HK.out]; have := HP.out.1; omega
        case rel =>
          have hjl := HP.out.1
          exact ⟨j + 1, rfl, by go_num, rfl, by omega, by omega, by rw [← HB.out, HP.out.2]⟩
      | false =>
        have hje : j = skipF (inR 97 122) l i := by have := skip_no (inR 97 122) l j hp; have := HB.out; omega
        have Hje := Lib.hid hje; clear hje HB
        have hcase : (97 ≤ peekF l j ∧ ¬ peekF l j ≤ 122) ∨ (¬ 97 ≤ peekF l j) := by
          simp only [inR, Bool.and_eq_false_iff, decide_eq_false_iff_not] at hp
          omega
        clear hp
        rcases hcase with ⟨hp1, hp2⟩ | hp1
        all_goals
          go_wp2_with (go_at_call 31; refine (tat_any h _).mono ?_; rintro e w1 ⟨rfl, rfl⟩)
          go_meet
          exact ⟨by rw [Hje.out], rfl⟩
  case rest =>
    obtain ⟨rfl, rfl⟩ := hcut
    have hik := skip_ge (inR 97 122) l i
    have hkl := skip_le (inR 97 122) l i hi
    generalize skipF (inR 97 122) l i = k at *
    go_upto_region 4 with fail
    go_cut [4, 5] (fun v4 v5 wx => v4 = .string ⟨(enc (cut l i k)).toArray⟩ ∧ v5 = .int .i64 i ∧ Scan wx b 64 l i 0 ∧ Keeps (· = b) w wx)
    case first =>
      rcases h.row3 with ⟨hl0, c0⟩ | ⟨g, cap, c0, hcap, hcm, hcell⟩
      · subst hl0
        obtain rfl : i = 0 := Nat.le_zero.1 hi
        obtain rfl : k = 0 := Nat.le_zero.1 hkl
        have hcv : ∀ m, (convert 52 9 (.slice none 0 0)).run Tryd.prog (w.drewN m) = .ok (.string ⟨#[]⟩) (w.drewN m) := fun m => run_convert_runes_nil (P := Tryd.prog) (w.drewN m) 52 9 21 0 0 Tryd.underlying52 Tryd.underlying21 Tryd.underlying9
        go_quiet (fail)
        go_wp2
        go_meet
        exact ⟨rfl, rfl, h.drewN _, Keeps.drewN _ _⟩
      · have hcvs := cut_slice (w := w) (g := g) (i := i) (j := k) (cap := cap) hl hik hkl hcap hcell
        have hkc : k ≤ cap := Nat.le_trans hkl hcap
        by_cases hca : cap = i
        · obtain rfl : k = i := by omega
          subst hca
          have hcv : ∀ m, _ := fun m => cut_conv (w := w.drewN m) (g := g) (i := 0) (j := 0) (c := 0) hl (Nat.zero_le _) hcell
          have ew := Nat.sub_self cap
          clear hcvs
          have HC := Lib.hid (cut_nil l cap cap (Nat.le_refl _))
          go_quiet (fail)
          go_wp2
          go_meet
          exact ⟨by rw [HC.out]; rfl, rfl, h.drewN _, Keeps.drewN _ _⟩
        · have hcv := hcvs.2 hca
          clear hcvs
          go_quiet (fail)
          go_wp2
          go_meet
          exact ⟨rfl, rfl, h.drewN _, Keeps.drewN _ _⟩
    case rest =>
      obtain ⟨rfl, rfl, hS0, hK0⟩ := hcut
      clear h c1 c2 f1 f2
      obtain ⟨_, c1, c2, f1, f2⟩ := hS0.cells
      have hS1 := hS0.set_i k (by omega)
      have hK1 : Keeps (· = b) w (wc.setCell ⟨b, 1, none⟩ (.int .i64 k)) := hK0.trans (Keeps.setCell _ _ _ (fun _ => rfl))
      generalize enc (cut l i k) = d at *
      by_cases d0 : d = wWrite
      · subst d0
        have HN' : Hid (N = step_Write l k) := Lib.hid (by rw [HN.out]; rfl)
        clear HN
        unfold wWrite at *
        go_wp2_with fail
        refine (tnumber_gen 1073741824 (by decide) hS1 hl).mono ?_
        rintro e w2 ⟨n, rfl, hS2, hK2, hn, hv⟩
        have hv' := Lib.hid hv; clear hv
        go_wp2_with fail
        refine (tquoted_gen hS2 hl).mono ?_
        rintro e w3 ⟨rfl, hS3, hK3⟩
        go_wp2
        try go_ret
        exact hR.out _ _ ⟨_, rfl, by rw [HN'.out]; exact hS3, (hK1.trans hK2).trans hK3, Or.inr ⟨_, _, rfl⟩, by rw [HN'.out]; exact val_Write hv'.out⟩
      by_cases d1 : d = wRead
      · subst d1
        have HN' : Hid (N = step_Read l k) := Lib.hid (by rw [HN.out]; rfl)
        clear HN
        unfold wRead at *
        go_wp2_with fail
        refine (tnumber_gen 1073741824 (by decide) hS1 hl).mono ?_
        rintro e w2 ⟨n, rfl, hS2, hK2, hn, hv⟩
        have hv' := Lib.hid hv; clear hv
        go_wp2
        try go_ret
        exact hR.out _ _ ⟨_, rfl, by rw [HN'.out]; exact hS2, hK1.trans hK2, Or.inr ⟨_, _, rfl⟩, by rw [HN'.out]; exact val_Read hv'.out⟩
      by_cases d2 : d = wTrim
      · subst d2
        have HN' : Hid (N = step_Trim l k) := Lib.hid (by rw [HN.out]; rfl)
        clear HN
        unfold wTrim at *
        go_wp2_with fail
        refine (tnumber_gen 1073741824 (by decide) hS1 hl).mono ?_
        rintro e w2 ⟨n, rfl, hS2, hK2, hn, hv⟩
        have hv' := Lib.hid hv; clear hv
        go_wp2
        try go_ret
        exact hR.out _ _ ⟨_, rfl, by rw [HN'.out]; exact hS2, hK1.trans hK2, Or.inr ⟨_, _, rfl⟩, by rw [HN'.out]; exact val_Trim hv'.out⟩
      by_cases d3 : d = wGreedy
      · subst d3
        have HN' : Hid (N = step_Greedy l k) := Lib.hid (by rw [HN.out]; rfl)
        clear HN
        unfold wGreedy at *
        go_wp2_with fail
        refine (tnumber_gen 1073741824 (by decide) hS1 hl).mono ?_
        rintro e w2 ⟨n, rfl, hS2, hK2, hn, hv⟩
        have hv' := Lib.hid hv; clear hv
        go_wp2
        try go_ret
        exact hR.out _ _ ⟨_, rfl, by rw [HN'.out]; exact hS2, hK1.trans hK2, Or.inr ⟨_, _, rfl⟩, by rw [HN'.out]; exact val_Greedy hv'.out⟩
      by_cases d4 : d = wWorth
      · subst d4
        have HN' : Hid (N = step_Worth l k) := Lib.hid (by rw [HN.out]; rfl)
        clear HN
        unfold wWorth at *
        go_wp2_with fail
        refine (tnumber_gen 1073741824 (by decide) hS1 hl).mono ?_
        rintro e w2 ⟨n, rfl, hS2, hK2, hn, hv⟩
        have hv' := Lib.hid hv; clear hv
        go_wp2
        try go_ret
        exact hR.out _ _ ⟨_, rfl, by rw [HN'.out]; exact hS2, hK1.trans hK2, Or.inr ⟨_, _, rfl⟩, by rw [HN'.out]; exact val_Worth hv'.out⟩
      by_cases d5 : d = wFail
      · subst d5
        have HN' : Hid (N = step_Fail l k) := Lib.hid (by rw [HN.out]; rfl)
        clear HN
        unfold wFail at *
        go_wp2_with fail
        refine (tnumber_gen 1073741824 (by decide) hS1 hl).mono ?_
        rintro e w2 ⟨n, rfl, hS2, hK2, hn, hv⟩
        have hv' := Lib.hid hv; clear hv
        go_wp2
        try go_ret
        exact hR.out _ _ ⟨_, rfl, by rw [HN'.out]; exact hS2, hK1.trans hK2, Or.inr ⟨_, _, rfl⟩, by rw [HN'.out]; exact val_Fail hv'.out⟩
      by_cases d6 : d = wReplace
      · subst d6
        have HN' : Hid (N = step_Replace l k) := Lib.hid (by rw [HN.out]; rfl)
        clear HN
        unfold wReplace at *
        go_wp2_with fail
        refine (tnumber_gen 1073741824 (by decide) hS1 hl).mono ?_
        rintro e w2 ⟨n, rfl, hS2, hK2, hn, hv⟩
        have hv' := Lib.hid hv; clear hv
        go_wp2
        try go_ret
        exact hR.out _ _ ⟨_, rfl, by rw [HN'.out]; exact hS2, hK1.trans hK2, Or.inr ⟨_, _, rfl⟩, by rw [HN'.out]; exact val_Replace hv'.out⟩
      by_cases d7 : d = wFlush
      · subst d7
        have HN' : Hid (N = step_Flush l k) := Lib.hid (by rw [HN.out]; rfl)
        clear HN
        unfold wFlush at *
        go_wp2
        try go_ret
        exact hR.out _ _ ⟨_, rfl, by rw [HN'.out]; exact hS1, hK1, Or.inr ⟨_, _, rfl⟩, by rw [HN'.out]; intro _; rfl⟩
      by_cases d8 : d = wCkpt
      · subst d8
        have HN' : Hid (N = step_Ckpt l k) := Lib.hid (by rw [HN.out]; rfl)
        clear HN
        unfold wCkpt at *
        go_wp2
        try go_ret
        exact hR.out _ _ ⟨_, rfl, by rw [HN'.out]; exact hS1, hK1, Or.inr ⟨_, _, rfl⟩, by rw [HN'.out]; intro _; rfl⟩
      by_cases d9 : d = wRebuild
      · subst d9
        have HN' : Hid (N = step_Rebuild l k) := Lib.hid (by rw [HN.out]; rfl)
        clear HN
        unfold wRebuild at *
        go_wp2
        try go_ret
        exact hR.out _ _ ⟨_, rfl, by rw [HN'.out]; exact hS1, hK1, Or.inr ⟨_, _, rfl⟩, by rw [HN'.out]; intro _; rfl⟩
      by_cases d10 : d = wCheck
      · subst d10
        have HN' : Hid (N = step_Check l k) := Lib.hid (by rw [HN.out]; rfl)
        clear HN
        unfold wCheck at *
        go_wp2
        try go_ret
        exact hR.out _ _ ⟨_, rfl, by rw [HN'.out]; exact hS1, hK1, Or.inr ⟨_, _, rfl⟩, by rw [HN'.out]; intro _; rfl⟩
      by_cases d11 : d = wFailat
      · subst d11
        have HN' : Hid (N = step_Failat l k) := Lib.hid (by rw [HN.out]; rfl)
        clear HN
        unfold wFailat at *
        go_wp2_with fail
        refine (tnumber_gen 1073741824 (by decide) hS1 hl).mono ?_
        rintro e w2 ⟨n, rfl, hS2, hK2, hn, hv⟩
        have hv' := Lib.hid hv; clear hv
        go_wp2_with fail
        refine (tnumber_gen 1073741824 (by decide) hS2 hl).mono ?_
        rintro e w3 ⟨m, rfl, hS3, hK3, hm, hv2⟩
        have hv2' := Lib.hid hv2; clear hv2
        go_wp2
        try go_ret
        exact hR.out _ _ ⟨_, rfl, by rw [HN'.out]; exact hS3, (hK1.trans hK2).trans hK3, Or.inr ⟨_, _, rfl⟩, by rw [HN'.out]; exact val_Failat hv'.out hv2'.out⟩
      by_cases d12 : d = wCrash
      · subst d12
        have HN' : Hid (N = step_Crash l k) := Lib.hid (by rw [HN.out]; rfl)
        clear HN
        unfold wCrash at *
        go_wp2_with fail
        refine (tnumber_gen 1073741824 (by decide) hS1 hl).mono ?_
        rintro e w2 ⟨n, rfl, hS2, hK2, hn, hv⟩
        have hv' := Lib.hid hv; clear hv
        go_wp2_with fail
        refine (tnumber_gen 18446744073709551615 (by decide) hS2 hl).mono ?_
        rintro e w3 ⟨m, rfl, hS3, hK3, hm, hv2⟩
        have hv2' := Lib.hid hv2; clear hv2
        go_wp2
        try go_ret
        exact hR.out _ _ ⟨_, rfl, by rw [HN'.out]; exact hS3, (hK1.trans hK2).trans hK3, Or.inr ⟨_, _, rfl⟩, by rw [HN'.out]; exact val_Crash hv'.out hv2'.out⟩
      have HN' : Hid (N = (11, i, .none)) := Lib.hid (by rw [HN.out]; unfold stepG; simp only [d0, d1, d2, d3, d4, d5, d6, d7, d8, d9, d10, d11, d12, false_or, if_false])
      clear HN
      have e0 : (d == wWrite) = false := by simpa using d0
      have e1 : (d == wRead) = false := by simpa using d1
      have e2 : (d == wTrim) = false := by simpa using d2
      have e3 : (d == wGreedy) = false := by simpa using d3
      have e4 : (d == wWorth) = false := by simpa using d4
      have e5 : (d == wFail) = false := by simpa using d5
      have e6 : (d == wReplace) = false := by simpa using d6
      have e7 : (d == wFlush) = false := by simpa using d7
      have e8 : (d == wCkpt) = false := by simpa using d8
      have e9 : (d == wRebuild) = false := by simpa using d9
      have e10 : (d == wCheck) = false := by simpa using d10
      have e11 : (d == wFailat) = false := by simpa using d11
      have e12 : (d == wCrash) = false := by simpa using d12
      clear d0 d1 d2 d3 d4 d5 d6 d7 d8 d9 d10 d11 d12
      unfold wWrite wRead wTrim wGreedy wWorth wFail wReplace wFlush wCkpt wRebuild wCheck wFailat wCrash at *
      have hSi := (hS1.set_i i (by omega)).set_e 11
      have hKi : Keeps (· = b) w (((wc.setCell ⟨b, 1, none⟩ (.int .i64 k)).setCell ⟨b, 1, none⟩ (.int .i64 i)).setCell ⟨b, 2, none⟩ (.int .i64 11)) := (hK1.trans (Keeps.setCell _ _ _ (fun _ => rfl))).trans (Keeps.setCell _ _ _ (fun _ => rfl))
      go_wp2
      try go_ret
      exact hR.out _ _ ⟨_, rfl, by rw [HN'.out]; exact hSi, hKi, Or.inl rfl, by rw [HN'.out]; intro h; cases h⟩
end Go.Proofs.YtpjocnembjocgaaDoor
