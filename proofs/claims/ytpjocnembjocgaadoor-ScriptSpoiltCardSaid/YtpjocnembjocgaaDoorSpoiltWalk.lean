/- The law ScriptSpoilt returns true, whatever its arguments. -/
import Derived.Test.YtpjocnembjocgaaDoorFits
import Derived.Test.YtpjocnembjocgaaDoorReads
import Derived.Test.YtpjocnembjocgaaDoorSteps
import Derived.Test.YtpjocnembjocgaaDoorAwake
namespace Go.Proofs.YtpjocnembjocgaaDoor
open Go.RowKit Go.Mi

set_option maxHeartbeats 4000000 in
set_option maxRecDepth 100000 in
theorem line_writeL (n : Nat) (hn : n ≤ 4611686018427387904) (t : List UInt8) (ht : t.length ≤ 140737488355328) (w : World) (hE : Env w) : Calls Tryd.prog 15 #[(St.write n t).val] w (LinePost (St.write n t) w) := by
  refine post_hid ?_; intro R hR
  have hd := numS_le n hn
  have HS := Lib.hid (show lineF (St.write n t) = wWrite ++ numS n ++ [32, 34] ++ t ++ [34, 10] from rfl)
  have hE1 : Env (w.alloc (.cells #[.int .i64 n, .string ⟨t.toArray⟩] 69)).drew := hE.keeps (M := fun _ => False) ((Keeps.alloc _ _).trans (Keeps.drew _)) (fun _ _ h => h)
  have hb0 : Below w.heap.size w (w.alloc (.cells #[.int .i64 n, .string ⟨t.toArray⟩] 69)).drew := ((Below.refl _ _).alloc (Nat.le_refl _) _).drew
  unfold St.val
  go_enter Tryd.func15, Tryd.ntmps15
  have hc := num_any n hn _ hE1
  go_wp2_with fail
  go_region_with (go_at_call 33; refine hc.mono ?_; rintro e w1 ⟨rfl, hb⟩; (have hcell1 : w1.cell? ⟨w.heap.size, 1, none⟩ = some (.string ⟨t.toArray⟩) := by rw [hb.cell (p := ⟨w.heap.size, 1, none⟩) (by simp)]; simp [World.cell?_drew, World.cell?_alloc_new]))
  all_goals
    go_wp2
    try go_ret
    exact hR.out _ _ ⟨by rw [HS.out]; simp only [← bapp]; rfl, hb0.trans (hb.mono (by simp))⟩

theorem names_le (m : Nat) : (names m).length ≤ 10 := by unfold names; (repeat' split) <;> decide
/-- An act's line, whatever its text. -/
theorem act_line (x : Ac) (hx : x.ok) (ht : x.t.length ≤ 140737488355328) (w : World) (hE : Env w) : Calls Tryd.prog 15 #[x.st.val] w (LinePost x.st w) := by
  obtain ⟨h0, h1, h2, h3⟩ := hx
  have hn := names_le (x.b % 4)
  unfold Ac.st actF
  by_cases c0 : x.d % 12 ≤ 2
  · rw [if_pos c0]; exact line_writeL _ (by omega) _ ht w hE
  · rw [if_neg c0]
    (repeat' split) <;> refine line_any _ ?_ w hE
    · show x.a ≤ _; omega
    · show x.a ≤ _; omega
    · show (names _).length ≤ _; omega
    · show x.a ≤ _; omega
    · show x.a ≤ _; omega
    · exact ⟨by decide, by omega⟩
    · exact ⟨by decide, by omega⟩
    · exact ⟨by omega, by omega⟩
    · exact ⟨by omega, by omega⟩
theorem act_len (x : Ac) (hx : x.ok) : (lineF x.st).length ≤ x.t.length + 100 := by
  obtain ⟨h0, h1, h2, h3⟩ := hx
  have hn := names_le (x.b % 4)
  have ha := numS_le x.a (by omega)
  have hb := numS_le x.b (by omega)
  have hk := digits_le x.k h3
  unfold Ac.st actF
  (repeat' split) <;> simp [lineF, wWrite, wRead, wTrim, wGreedy, wWorth, wFail, wReplace, wFailat, wCrash] <;> omega

set_option maxHeartbeats 4000000 in
set_option maxRecDepth 100000 in
theorem spoilt_walk (l : List Ac) (hok : ∀ x ∈ l, x.ok ∧ x.t.length ≤ 140737488355328) (a c : Nat) (ha : a < 65536) (hc : c < 256) (m : ByteArray) (w : World) (hE : Env w) (v : Value) (n : Nat) (hv : ∃ ao cap, v = .slice ao n cap) (hnl : n = l.length) (h : Acts w v l) :
    Calls Tryd.prog 5 #[v, .int .u16 a, .int .u8 c, .string m] w fun e w' => e = .returned (.bool true) ∧ Below w.heap.size w w' := by
  refine post_hid ?_; intro R hR
  obtain ⟨ao, cap, rfl⟩ := hv
  by_cases hbig : ((12 : Int) < (n : Int)) ∨ (¬ (12 : Int) < (n : Int)) ∧ (30 : Int) < (m.size : Int)
  · rcases hbig with h1 | ⟨h1, h2⟩
    all_goals
      go_enter Tryd.func5, Tryd.ntmps5
      go_wp2_with fail
      refine (awake_any w hE).mono ?_
      rintro e w1 ⟨rfl, hb1⟩
      go_wp2
      try go_ret
      exact hR.out _ _ ⟨rfl, hb1⟩
  · have h1 : ¬ (12 : Int) < (n : Int) := by omega
    have h2 : ¬ (30 : Int) < (m.size : Int) := by omega
    clear hbig
    have HNL := Lib.hid hnl; clear hnl
    go_enter Tryd.func5, Tryd.ntmps5
    go_wp2_with fail
    refine (awake_any w hE).mono ?_
    rintro e w1 ⟨rfl, hb1⟩
    have hE1 := hE.below hb1 hE.size
    have hs1 := hb1.size
    have hA1 := h.below hb1 (Nat.le_refl _)
    have HA := Lib.hid hA1; clear hA1 h
    go_wp2_with fail
    refine (steps_any l (fun x hx => (hok x hx).1) (by have := HNL.out; omega) w1 (.slice ao n cap) HA.out).mono ?_
    rintro e w2 ⟨r, rfl, hr, hb2⟩
    have hE2 := hE1.below hb2 hE1.size
    have hs2 := hb2.size
    have hr0 := hr
    obtain ⟨ra, rc, rfl⟩ := shape_row' hr
    have hll : Hid (l.length ≤ 12) := Lib.hid (by have := HNL.out; omega)
    have hcells : Hid (∀ (k : Nat) (hk : k < l.length), ∃ g, ra = some ⟨g, 0, none⟩ ∧ g < w2.heap.size ∧ w2.cell? ⟨g, k, none⟩ = some l[k].st.val) := Lib.hid fun k hk => by
      obtain ⟨g, p, hv, hg, hc⟩ := row_cell hr0 (by omega)
      simp only [Value.slice.injEq] at hv
      exact ⟨g, hv.1, hg, hc k _ (by simp [hk])⟩
    clear hr hr0
    go_wp2_with fail
    go_loopg [9, 32] l.length (fun k v9 v32 wr => ∃ (i : Nat) (T : List UInt8), k = l.length - i ∧ v32 = .int .i64 i ∧ v9 = .string ⟨T.toArray⟩ ∧ i ≤ l.length ∧ T.length ≤ i * 140737488355428 ∧ Below w2.heap.size w2 wr)
    case atStart => exact ⟨0, [], rfl, rfl, rfl, Nat.zero_le _, Nat.le_refl _, Below.refl _ _⟩
    case round =>
      obtain ⟨i, T, hk, rfl, rfl, hi, hT, hbr⟩ := hrel
      have HK := Lib.hid hk; clear hk
      have hEr := hE2.below hbr hE2.size
      by_cases hlt : i < l.length
      · obtain ⟨g, hra, hg, hcell⟩ := hcells.out i hlt
        subst hra
        have hcr : wr.cell? ⟨g, i, none⟩ = some l[i].st.val := (hbr.cell (p := ⟨g, i, none⟩) hg).trans hcell
        obtain ⟨hx1, hx2⟩ := hok l[i] (List.getElem_mem hlt)
        have hlen := act_len l[i] hx1
        have hline := Lib.hid (act_line l[i] hx1 hx2 wr hEr)
        unfold LinePost at hline
        obtain ⟨ty, x, f, wd, hv, _⟩ := word_gen l[i].st (st_ne l[i])
        rw [hv] at hline hcr
        have hl12 := hll.out
        have hTT : T.length ≤ 12 * 140737488355428 := Nat.le_trans hT (Nat.mul_le_mul_right _ (by omega))
        have HT := Lib.hid hT; clear hT hcell hv
        generalize lineF l[i].st = L at *
        go_wp2_with fail
        refine hline.out.mono ?_
        rintro e w4 ⟨rfl, hb4⟩
        go_wp2
        go_roundg (l.length - (i + 1))
        case measure => rw [HK.out]; omega
        case rel =>
          refine ⟨i + 1, T ++ L, rfl, by go_num, by rw [← bapp], by omega, ?_, hbr.trans (hb4.mono hbr.size)⟩
          have := HT.out
          rw [List.length_append, Nat.add_mul]; omega
      · have hie : ¬ ((i : Int) < (l.length : Int)) := by omega
        have hbw : Below w.heap.size w wr := hb1.trans ((hb2.mono hs1).trans (hbr.mono (Nat.le_trans hs1 hs2)))
        by_cases hbg : 2000 < T.length
        · have hbgI : (2000 : Int) < (T.length : Int) := by omega
          go_wp2
          try go_ret
          exact hR.out _ _ ⟨rfl, hbw⟩
        · have hbgI : ¬ (2000 : Int) < (T.length : Int) := by omega
          have hsz : (⟨T.toArray⟩ : ByteArray).size = T.length := by simp [ByteArray.size]
          have hS2 : (⟨T.toArray⟩ : ByteArray).size ≤ 2000 := by omega
          have hbgS : ¬ (2000 : Int) < (((⟨T.toArray⟩ : ByteArray).size : Nat) : Int) := by omega
          clear hsz hbgI hbg hT
          generalize (⟨T.toArray⟩ : ByteArray) = S at *
          obtain ⟨kk, hkk⟩ : ∃ kk : Nat, (a : Int) % ((S.size : Int) + 1) = (kk : Int) := ⟨((a : Int) % ((S.size : Int) + 1)).toNat, (Int.toNat_of_nonneg (Int.emod_nonneg _ (by omega))).symm⟩
          have hkS : kk ≤ S.size := by
            have := Int.emod_lt_of_pos (a : Int) (show (0 : Int) < (S.size : Int) + 1 by omega)
            omega
          obtain ⟨cc, hcc⟩ : ∃ cc : Nat, (c : Int) % 4 = (cc : Int) := ⟨c % 4, by omega⟩
          have hc3 : cc ≤ 3 := by omega
          have hw1 : IntKind.i64.wrap ((kk : Int) + (cc : Int)) = (kk : Int) + (cc : Int) := by rw [IntKind.wrap_i64]; omega
          have hX : Hid ((S.extract 0 kk ++ m ++ S.extract (min ((kk : Int) + (cc : Int)) (S.size : Int)).toNat S.size).size ≤ 4000) := Lib.hid (by
            rw [ByteArray.size_append, ByteArray.size_append, ByteArray.size_extract, ByteArray.size_extract]; omega)
          go_wp2
          go_quiet (fail)
          generalize S.extract 0 kk ++ m ++ S.extract (min ((kk : Int) + (cc : Int)) (S.size : Int)).toNat S.size = X at *
          have hbr' : Below w2.heap.size w2 (wr.drewN nq) := to_drewN hbr
          have hbw' : Below w.heap.size w (wr.drewN nq) := to_drewN hbw
          have hEr' := hE.below hbw' hE.size
          have hszw := hbw'.size
          generalize wr.drewN nq = w5 at *
          have HF := Lib.hid (parse_fits X)
          have HL := Lib.hid (parse_len X)
          go_wp2_with fail
          refine (parse_any X w5 (by have := hX.out; omega) hEr').mono ?_
          rintro e w6 ⟨v, rfl, hv, hb6⟩
          have hE6 := hEr'.below hb6 hEr'.size
          go_wp2_with fail
          refine (reads_any X w6 hX.out hE6).mono ?_
          rintro e w7 ⟨v', rfl, hv', hb7⟩
          have hE7 := hE6.below hb7 hE6.size
          have hv7 := (Keeps.of_below (M := fun k => w6.heap.size ≤ k) hb7 (fun _ _ h => h)).owns hv (fun k hk e => by have := (hv.lt k hk).2; omega)
          generalize parseF X = rr at *
          obtain ⟨xs, pi, er⟩ := rr
          have hsame := same_any xs HF.out (Nat.le_trans HL.out (by decide)) w7 hE7 v v' _ _ hv7 hv'
          go_wp2_with fail
          refine hsame.mono ?_
          rintro e w8 ⟨rfl, hb8⟩
          go_wp2
          try go_ret
          exact hR.out _ _ ⟨rfl, hbw'.trans ((hb6.mono hszw).trans ((hb7.mono (Nat.le_trans hszw hb6.size)).trans (hb8.mono (Nat.le_trans hszw (Nat.le_trans hb6.size hb7.size)))))⟩
end Go.Proofs.YtpjocnembjocgaaDoor
