/- The law ScriptSizes returns true, whatever its arguments. -/
import Derived.Test.YtpjocnembjocgaaDoorSizesPlain
import Derived.Test.YtpjocnembjocgaaDoorAwake
namespace Go.Proofs.YtpjocnembjocgaaDoor
open Go.RowKit Go.Mi

theorem made_size (z : Array Value) (n : Nat) (h : z.size = 1) : (madeCells z (n * 1)).size = n := by
  simp [madeCells, h]

theorem make_bytes (l c : Nat) (hlc : l ≤ c) (hc : c ≤ 100000) (W : World) :
    ∃ cur : Array Value, cur.size = c ∧ (Instr.makeSlice 23 (.int .i64 l) (.int .i64 c)).run Tryd.prog W = .ok (.slice (some ⟨W.heap.size, 0, none⟩) l c) (W.alloc (.cells cur 5)) := by
  obtain ⟨i0, hi, hz0, hz1, hz2⟩ := info_parts infoByte
  have h := run_make (P := Tryd.prog) (w := W) 23 5 i0 (.int .u8 0) Tryd.underlying23 hi hz0 .i64 .i64 (l : Int) (c : Int) (by omega) (by omega) (by rw [hz2]; omega) (by omega)
  rw [hz1] at h
  simp only [Int.toNat_natCast] at h
  exact ⟨_, made_size _ _ rfl, h⟩

set_option maxHeartbeats 4000000 in
set_option maxRecDepth 100000 in
theorem sizes_long (d : Nat) (hd : d < 256) (w : World) (hE : Env w) :
    Calls Tryd.prog 3 #[.int .u8 d, .bool true] w fun e w' => e = .returned (.bool true) ∧ Below w.heap.size w w' := by
  refine post_hid ?_; intro R hR
  obtain ⟨c, hc⟩ : ∃ c : Nat, (65530 : Int) + (d : Int) % 12 = (c : Int) := ⟨65530 + d % 12, by omega⟩
  have hc1 : 65530 ≤ c := by omega
  have hc2 : c ≤ 65541 := by omega
  go_enter Tryd.func3, Tryd.ntmps3
  go_wp2_with fail
  refine (awake_any w hE).mono ?_
  rintro e w1 ⟨rfl, hb1⟩
  have hE1 := hE.below hb1 hE.size
  have hs1 := hb1.size
  obtain ⟨cur, hcur, hmk⟩ := make_bytes c c (Nat.le_refl _) (by omega) w1
  have HC := Lib.hid hcur; clear hcur
  go_wp2_with fail
  go_loopg [26] c (fun k v wr => ∃ (j : Nat) (cj : Array Value), k = c - j ∧ j ≤ c ∧ v = .int .i64 j ∧ wr.heap[w1.heap.size]? = some (.cells cj 5 (0, 0)) ∧ cj.size = c ∧ (∀ i, i < j → cj[i]? = some (.int .u8 32)) ∧ Below w.heap.size w wr)
  case atStart => exact ⟨0, cur, rfl, Nat.zero_le _, rfl, alloc_new _ _, HC.out, (fun i hi => by omega), hb1.alloc hs1 _⟩
  case round =>
    obtain ⟨j, cj, hk, hj, rfl, hblk, hsz, hall, hbw⟩ := hrel
    have HK := Lib.hid hk; clear hk
    have HZ := Lib.hid hsz; clear hsz
    have HA := Lib.hid hall; clear hall
    have hbsz := hbw.size
    by_cases hlt : j < c
    · have hcell : wr.cell? ⟨w1.heap.size, j, none⟩ = some (cj[j]'(by have := HZ.out; omega)) := by rw [cell_blk hblk]; exact Array.getElem?_eq_getElem _
      have hfr := free_blk hblk j
      have hset := set_blk hblk j (.int .u8 32)
      go_wp2_with fail
      go_roundg (c - (j + 1))
      case measure => rw [HK.out]; omega
      case rel =>
        refine ⟨j + 1, _, rfl, by omega, by go_num, hset, by rw [Array.size_setIfInBounds]; exact HZ.out, fun i hi => ?_, hbw.setCell (p := ⟨w1.heap.size, j, none⟩) hs1 _⟩
        by_cases e : i = j
        · subst e; rw [Array.getElem?_setIfInBounds_self_of_lt (by have := HZ.out; omega)]
        · rw [Array.getElem?_setIfInBounds_ne (by omega)]; exact HA.out i (by omega)
    · have hjc : j = c := by omega
      have hlen : (List.replicate c (32 : UInt8)).length = c := by simp
      have hcv := run_convert_bytes_back (P := Tryd.prog) wr 23 9 5 ⟨w1.heap.size, 0, none⟩ c (List.replicate c 32) Tryd.underlying23 Tryd.underlying5 Tryd.underlying9 (fun i hi => by
        rw [Lib.add_plain, cell_blk hblk, Nat.zero_add, HA.out i (by omega)]
        rw [List.getElem_replicate]; rfl)
      rw [hlen] at hcv
      clear hlen
      have hEr := hE.below hbw hE.size
      have hsz : (⟨(List.replicate c (32 : UInt8)).toArray⟩ : ByteArray).size = c := by simp [ByteArray.size]
      have hp := parse_any ⟨(List.replicate c (32 : UInt8)).toArray⟩ wr (by omega) hEr
      have hpf : parseF ⟨(List.replicate c (32 : UInt8)).toArray⟩ = if 65536 < c then ([], 0, 6) else ([], 0, 0) := by
        split
        · exact parse_long _ (by omega)
        · exact parse_spaces c (by omega)
      rw [hpf] at hp
      generalize (⟨(List.replicate c (32 : UInt8)).toArray⟩ : ByteArray) = S at *
      clear hpf hsz
      by_cases hbig : 65536 < c
      · rw [if_pos hbig] at hp
        have HP := Lib.hid hp; clear hp
        have hjlt : ¬ ((j : Int) < (c : Int)) := by omega
        have hbI : (65536 : Int) < (c : Int) := by omega
        clear hjc
        go_wp2_with fail
        refine HP.out.mono ?_
        rintro e w3 ⟨v, rfl, hv, hb3⟩
        obtain ⟨ao, cp, rfl⟩ := shape_row hv
        go_wp2
        try go_ret
        exact hR.out _ _ ⟨rfl, hbw.trans (hb3.mono hbsz)⟩
      · rw [if_neg hbig] at hp
        have HP := Lib.hid hp; clear hp
        have hjlt : ¬ ((j : Int) < (c : Int)) := by omega
        have hbI : ¬ (65536 : Int) < (c : Int) := by omega
        clear hjc
        go_wp2_with fail
        refine HP.out.mono ?_
        rintro e w3 ⟨v, rfl, hv, hb3⟩
        obtain ⟨ao, cp, rfl⟩ := shape_row hv
        go_wp2
        try go_ret
        exact hR.out _ _ ⟨rfl, hbw.trans (hb3.mono hbsz)⟩

def flat (j : Nat) : List UInt8 := (List.replicate j flushL).flatten
theorem flat_len (j : Nat) : (flat j).length = 6 * j := by unfold flat; rw [flat_length]; show j * 6 = 6 * j; omega
theorem flat_cells (j : Nat) : Lib.strCells ⟨(flat j).toArray⟩ ++ Lib.strCells ⟨#[102, 108, 117, 115, 104, 10]⟩ = Lib.strCells ⟨(flat (j + 1)).toArray⟩ := by
  unfold flat
  rw [List.replicate_succ', List.flatten_append]
  simp [Lib.strCells, flushL]
theorem flat_cell {w : World} {base : Nat} {v : Value} {j : Nat} (hj : 0 < j) (h : w.ownsRow base 5 1 v (6 * j) (Lib.strCells ⟨(flat j).toArray⟩)) :
    ∃ (g cap : Nat), v = .slice (some ⟨g, 0, none⟩) (6 * j) cap ∧ ∀ i (hi : i < (flat j).length), w.cell? (Addr.add ⟨g, 0, none⟩ i) = some (.int .u8 ((flat j)[i].toNat : Int)) := by
  have hl := flat_len j
  rcases h.2 with ⟨hv, h0⟩ | ⟨g, cap, cur, hv, hb, hblk, hn, hc, hsz, htk⟩
  · omega
  · refine ⟨g, cap, hv, fun i hi => ?_⟩
    rw [Lib.add_plain, cell_blk hblk, Nat.zero_add]
    have h1 : (cur.toList.take (6 * j * 1))[i]? = (Lib.strCells ⟨(flat j).toArray⟩)[i]? := by rw [htk]
    rw [List.getElem?_take_of_lt (by omega), Array.getElem?_toList] at h1
    rw [h1]
    simp [Lib.strCells, hi]

theorem many_par (m : Nat) (hm : m ≤ 4200) : parseF ⟨(flat m).toArray⟩ = if m ≤ 4096 then (List.replicate m (.plain wFlush), 0, 0) else ([], 24576, 6) := parse_many m hm

set_option maxHeartbeats 4000000 in
set_option maxRecDepth 100000 in
theorem sizes_many (d : Nat) (hd : d < 256) (w : World) (hE : Env w) :
    Calls Tryd.prog 3 #[.int .u8 d, .bool false] w fun e w' => e = .returned (.bool true) ∧ Below w.heap.size w w' := by
  refine post_hid ?_; intro R hR
  obtain ⟨m, hm⟩ : ∃ m : Nat, (4090 : Int) + (d : Int) % 12 = (m : Int) := ⟨4090 + d % 12, by omega⟩
  have hm1 : 4090 ≤ m := by omega
  have hm2 : m ≤ 4101 := by omega
  go_enter Tryd.func3, Tryd.ntmps3
  go_wp2_with fail
  refine (awake_any w hE).mono ?_
  rintro e w1 ⟨rfl, hb1⟩
  have hE1 := hE.below hb1 hE.size
  have hs1 := hb1.size
  obtain ⟨cur, hcur, hmk⟩ := make_bytes 0 (6 * m) (Nat.zero_le _) (by omega) w1
  rw [show ((0 : Nat) : Int) = 0 from rfl, show ((6 * m : Nat) : Int) = 6 * (m : Int) by omega] at hmk
  have e6 : IntKind.i64.wrap ((6 : Int) * (m : Int)) = 6 * (m : Int) := by rw [IntKind.wrap_i64]; omega
  have HC := Lib.hid hcur; clear hcur
  go_wp2_with fail
  go_loopg [12, 69] m (fun k v12 v wr => ∃ (j : Nat), k = m - j ∧ j ≤ m ∧ v = .int .i64 j ∧ wr.ownsRow w1.heap.size 5 1 v12 (6 * j) (Lib.strCells ⟨(flat j).toArray⟩) ∧ w1.heap.size ≤ wr.heap.size ∧ Below w.heap.size w wr)
  case atStart =>
    refine ⟨0, rfl, Nat.zero_le _, rfl, ⟨rfl, Or.inr ⟨_, _, cur, rfl, Nat.le_refl _, alloc_new _ _, Nat.zero_le _, ?_, ?_, ?_⟩⟩, by simp, hb1.alloc hs1 _⟩
    · unfold maxLen; omega
    · rw [HC.out]; omega
    · rfl
  case round =>
    obtain ⟨j, hk, hj, rfl, hown, h5, hbw⟩ := hrel
    have HK := Lib.hid hk; clear hk
    have hbsz := hbw.size
    by_cases hlt : j < m
    · obtain ⟨i0, hi, hz0, hz1, hz2⟩ := info_parts infoByte
      go_wp2_with (at_builtin; refine Lib.wpList_append_own_string _ rfl _ _ 23 9 rfl w1.heap.size 5 i0 Tryd.underlying23 Tryd.underlying9 hi hz0 hz1 hz2 _ _ _ rfl hown ⟨#[102, 108, 117, 115, 104, 10]⟩ rfl ?c3 ?c4 ?c5 ?_)
      case c3 => show 6 * j + 6 ≤ maxLen; unfold maxLen; omega
      case c4 => show 6 * j + 6 ≤ _; omega
      case c5 => exact h5
      intro v' w2 hown' hg _
      rw [flat_cells] at hown'
      go_wp2
      go_roundg (m - (j + 1))
      case measure => rw [HK.out]; omega
      case rel =>
        refine ⟨j + 1, rfl, by omega, by go_num, ?_, Nat.le_trans h5 hg.size, hbw.grown hg hbsz (fun k hk => Nat.le_trans hs1 (hown.lt k hk).1)⟩
        exact hown'
    · have hjc : j = m := by omega
      subst hjc
      obtain ⟨g, cap, rfl, hcell⟩ := flat_cell (by omega) hown
      have hcv := run_convert_bytes_back (P := Tryd.prog) wr 23 9 5 ⟨g, 0, none⟩ cap (flat j) Tryd.underlying23 Tryd.underlying5 Tryd.underlying9 hcell
      have hl := flat_len j
      rw [hl] at hcv
      have hEr := hE.below hbw hE.size
      have hp := parse_any ⟨(flat j).toArray⟩ wr (by simp [ByteArray.size, hl]; omega) hEr
      rw [many_par j (by omega)] at hp
      clear hl hcell
      generalize (⟨(flat j).toArray⟩ : ByteArray) = S at *
      by_cases hbig : j ≤ 4096
      · rw [if_pos hbig] at hp
        have HP := Lib.hid hp; clear hp
        have hbI : ¬ (4096 : Int) < (j : Int) := by omega
        go_wp2_with fail
        refine HP.out.mono ?_
        rintro e w3 ⟨v, rfl, hv, hb3⟩
        obtain ⟨ao, cp, rfl⟩ := shape_row hv
        rw [List.length_replicate]
        go_wp2
        try go_ret
        exact hR.out _ _ ⟨rfl, hbw.trans (hb3.mono hbsz)⟩
      · rw [if_neg hbig] at hp
        have HP := Lib.hid hp; clear hp
        have hbI : (4096 : Int) < (j : Int) := by omega
        go_wp2_with fail
        refine HP.out.mono ?_
        rintro e w3 ⟨v, rfl, hv, hb3⟩
        obtain ⟨ao, cp, rfl⟩ := shape_row hv
        go_wp2
        try go_ret
        exact hR.out _ _ ⟨rfl, hbw.trans (hb3.mono hbsz)⟩
end Go.Proofs.YtpjocnembjocgaaDoor
