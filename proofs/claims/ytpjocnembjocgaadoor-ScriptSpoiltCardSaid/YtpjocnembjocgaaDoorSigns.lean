/- What signs does: a text's runes, or those ahead of the first byte that is no sign's. -/
import Derived.Test.YtpjocnembjocgaaDoorStep
import Derived.Lib.RuneCountTail
namespace Go.Proofs.YtpjocnembjocgaaDoor
open Go.RowKit Go.Mi

/-- The runes from a place on; whether all is signs. -/
def signsF (s : ByteArray) : Nat → Nat → List Int × Bool
  | 0, _ => ([], true)
  | f + 1, pos =>
    if pos < s.size then
      if (Utf8.decode s pos).1 = 65533 ∧ (Utf8.decode s pos).2 = 1 then ([], false)
      else (((Utf8.decode s pos).1 : Int) :: (signsF s f (pos + (Utf8.decode s pos).2)).1, (signsF s f (pos + (Utf8.decode s pos).2)).2)
    else ([], true)
def signsOf (s : ByteArray) : List Int × Bool := signsF s (s.size + 1) 0

theorem signsF_end (s : ByteArray) (f pos : Nat) (h : ¬ pos < s.size) : signsF s f pos = ([], true) := by
  cases f with
  | zero => rfl
  | succ f => rw [signsF, if_neg h]
theorem width_pos (s : ByteArray) (pos : Nat) (h : pos < s.size) : 1 ≤ (Utf8.decode s pos).2 := by
  by_cases ha : (s[pos]'h).toNat < 128
  · rw [decode_ascii s pos h ha]
    exact Nat.le_refl _
  · exact (decode_high s pos h (by omega)).2

theorem decode_tail (s : ByteArray) (pos : Nat) (h : pos < s.size) : Lib.decodeGo (s.extract pos s.size) = Utf8.decode s pos := by
  unfold Lib.decodeGo
  rw [if_neg (by rw [ByteArray.size_extract]; omega), Lib.tail_decode, Nat.add_zero]

theorem info21 : (Tryd.prog.info? 21).map (fun i => (i.zero, i.size, i.bytes)) = some (some (.int .i32 0), 1, 4) := by kernel_rfl

set_option maxHeartbeats 2000000 in
set_option maxRecDepth 100000 in
theorem signs_any (s : ByteArray) (w : World) (hs : s.size ≤ 1000000) (hE : Env w) :
    Calls Tryd.prog 24 #[.string s] w fun e w' => ∃ v, e = .returned (.tuple #[v, .bool (signsOf s).2]) ∧ w'.ownsRow w.heap.size 21 1 v (signsOf s).1.length ((signsOf s).1.map (Value.int .i32)) ∧ Below w.heap.size w w' := by
  refine post_hid ?_; intro R hR
  obtain ⟨i0, hi, hz0, hz1, hz2⟩ := info_parts info21
  go_enter Tryd.func24, Tryd.ntmps24
  go_wp2
  go_loopg [4] (s.size + 1) (fun k v wr => ∃ (pos fuel : Nat) (acc : List Int), k = s.size + 1 - pos ∧ wr.heap[w.heap.size]? = some (.stringIter s pos) ∧ wr.ownsRow (w.heap.size + 1) 21 1 v acc.length (acc.map (Value.int .i32)) ∧ Below w.heap.size w wr ∧ acc.length ≤ pos ∧ s.size + 1 ≤ fuel + pos ∧
    (acc ++ (signsF s fuel pos).1 = (signsOf s).1 ∧ (signsF s fuel pos).2 = (signsOf s).2))
  case atStart =>
    exact ⟨0, s.size + 1, [], rfl, World.iter_heap w s 0, World.ownsRow_nil _ _ _ _, (Below.refl _ w).alloc (Nat.le_refl _) _, Nat.le_refl _, Nat.le_refl _, rfl, rfl⟩
  case round =>
    obtain ⟨pos, fuel, acc, hk, hit, hown, hbw, hal, hfu, hacc⟩ := hrel
    have HA := Lib.hid hacc; clear hacc
    have HK := Lib.hid hk; clear hk
    have hsz : w.heap.size < wr.heap.size := lt_of_heap hit
    by_cases hp : pos < s.size
    · obtain ⟨f, rfl⟩ : ∃ f, fuel = f + 1 := ⟨fuel - 1, by omega⟩
      have hnx : ∀ ty, (Instr.next (.pointer (some ⟨w.heap.size, 0, none⟩)) true ty).run Tryd.prog wr = _ := fun ty => Lib.run_next_any_at wr w.heap.size s pos ty hit hp
      have hwd := width_pos s pos hp
      have hd1 := decode_le s pos
      have hit2 := Lib.iterAt_heap wr w.heap.size s pos (pos + (Utf8.decode s pos).2) hit
      have hk2 : Keeps (· = w.heap.size) wr (wr.iterAt w.heap.size s (pos + (Utf8.decode s pos).2)) := ⟨rfl, rfl, rfl, by rw [Lib.iterAt_size]; exact Nat.le_refl _, fun j _ hj => Lib.iterAt_other wr _ j s _ hj⟩
      have hown2 := hk2.owns hown (fun k hk e => by have := (hown.lt k hk).1; omega)
      have hbw2 := Lib.below_iterAt hbw (k := w.heap.size) (Nat.le_refl _) s (pos + (Utf8.decode s pos).2)
      have hsz2 : wr.heap.size ≤ (wr.iterAt w.heap.size s (pos + (Utf8.decode s pos).2)).heap.size := by rw [Lib.iterAt_size]; exact Nat.le_refl _
      have hdt : Lib.decodeGo (s.extract pos s.size) = ((Utf8.decode s pos).1, (Utf8.decode s pos).2) := decode_tail s pos hp
      have hstep : signsF s (f + 1) pos = if (Utf8.decode s pos).1 = 65533 ∧ (Utf8.decode s pos).2 = 1 then ([], false)
        else (((Utf8.decode s pos).1 : Int) :: (signsF s f (pos + (Utf8.decode s pos).2)).1, (signsF s f (pos + (Utf8.decode s pos).2)).2) := by rw [signsF, if_pos hp]
      have HS := Lib.hid hstep; clear hstep
      have HT := Lib.hid hdt; clear hdt
      generalize hdr : (Utf8.decode s pos).1 = r at *
      generalize hdw : (Utf8.decode s pos).2 = d at *
      clear hdr hdw hk2 hit hown hbw
      generalize wr.iterAt w.heap.size s (pos + d) = wi at *
      have hEi : Env wi := hE.below hbw2 hE.size
      by_cases hr : r = 65533
      · subst hr
        have hc := Tryd.utf8_DecodeRuneInString (s.extract pos s.size) wi hEi.tabs
        rw [HT.out] at hc
        have HC := Lib.hid hc
        clear hc HT
        by_cases hd : d = 1
        · subst hd
          have HN := Lib.hid (show signsF s (f + 1) pos = ([], false) by rw [HS.out, if_pos ⟨rfl, rfl⟩])
          go_wp2_with fail
          refine HC.out.mono ?_
          rintro e w3 ⟨rfl, hb3⟩
          have hown3 := (Keeps.of_below (M := fun k => wi.heap.size ≤ k) hb3 (fun _ _ h => h)).owns hown2 (fun k hk e => by have := (hown2.lt k hk).2; omega)
          go_wp2
          try go_ret2
          have h1 : acc = (signsOf s).1 := by rw [← HA.out.1, HN.out]; simp
          have h2 : false = (signsOf s).2 := by rw [← HA.out.2, HN.out]
          exact hR.out _ _ ⟨u4, by rw [← h2]; rfl, by rw [← h1]; exact ⟨hown3.1, hown3.2.imp id (fun ⟨g, c, cur, a, b, rest⟩ => ⟨g, c, cur, a, by omega, rest⟩)⟩, hbw2.trans (hb3.mono (by omega))⟩
        · have hd' : ((d : Int) == 1) = false := by rw [beq_eq_false_iff_ne]; omega
          go_wp2_with fail
          refine HC.out.mono ?_
          rintro e w3 ⟨rfl, hb3⟩
          have hk3 : Keeps (fun k => wi.heap.size ≤ k) wi w3 := Keeps.of_below hb3 (fun _ _ h => h)
          have hown3 := hk3.owns hown2 (fun k hk e => by have := (hown2.lt k hk).2; omega)
          have hit3 := hk3.heap hit2 (fun e => by have := lt_of_heap hit2; omega)
          have hbw3 := hbw2.trans (hb3.mono (by omega))
          have hsz3 := hb3.size
          go_wp2_with (at_builtin; refine wpList_append_own _ rfl _ _ 52 rfl (w.heap.size + 1) 21 i0 (.int .i32 0) 1 4 Tryd.underlying52 hi hz0 hz1 hz2 rfl (by decide) _ _ _ rfl (hown3.alloc _) ⟨w3.heap.size, 0, none⟩ 1 1 [.int .i32 65533] rfl rfl ?c1 ?c2 ?c3 ?c4 ?c5 ?_)
          case c1 =>
            intro j u hj
            match j, hj with
            | 0, hj => simp at hj; subst hj; simp [Addr.add]
          case c2 => intro u hu; simp at hu; subst hu; rfl
          case c3 => unfold maxLen; omega
          case c4 => omega
          case c5 => simp; omega
          intro v' w2 hown' hgrow _
          have hK2 : Keeps (fun k => some k = u4.ownBlock) w3 w2 := (Keeps.alloc _ _).trans (Keeps.of_grown hgrow (fun k _ e => e.symm))
          go_wp2
          go_roundg (s.size + 1 - (pos + d))
          case measure => rw [HK.out]; omega
          case rel =>
            refine ⟨pos + d, f, acc ++ [65533], rfl, hK2.heap hit3 (fun e => by have := (hown3.lt _ e.symm).1; omega), ?_, ?_, by simp; omega, by omega, ?_, ?_⟩
            · simpa using hown'
            · exact hbw3.trans (hK2.below (by omega) (fun k hk e => by have := (hown3.lt _ e.symm).1; omega))
            · rw [← HA.out.1, HS.out, if_neg (by omega)]; simp
            · rw [← HA.out.2, HS.out, if_neg (by omega)]
      · have hr' : ((r : Int) == 65533) = false := by rw [beq_eq_false_iff_ne]; omega
        go_wp2_with (at_builtin; refine wpList_append_own _ rfl _ _ 52 rfl (w.heap.size + 1) 21 i0 (.int .i32 0) 1 4 Tryd.underlying52 hi hz0 hz1 hz2 rfl (by decide) _ _ _ rfl (hown2.alloc _) ⟨wi.heap.size, 0, none⟩ 1 1 [.int .i32 r] rfl rfl ?c1 ?c2 ?c3 ?c4 ?c5 ?_)
        case c1 =>
          intro j u hj
          match j, hj with
          | 0, hj => simp at hj; subst hj; simp [Addr.add]
        case c2 => intro u hu; simp at hu; subst hu; rfl
        case c3 => unfold maxLen; omega
        case c4 => omega
        case c5 => simp; omega
        intro v' w2 hown' hgrow _
        have hK2 : Keeps (fun k => some k = u4.ownBlock) wi w2 := (Keeps.alloc _ _).trans (Keeps.of_grown hgrow (fun k _ e => e.symm))
        go_wp2
        go_roundg (s.size + 1 - (pos + d))
        case measure => rw [HK.out]; omega
        case rel =>
          refine ⟨pos + d, f, acc ++ [(r : Int)], rfl, hK2.heap hit2 (fun e => by have := (hown2.lt _ e.symm).1; omega), ?_, ?_, by simp; omega, by omega, ?_, ?_⟩
          · simpa using hown'
          · exact hbw2.trans (hK2.below (by omega) (fun k hk e => by have := (hown2.lt _ e.symm).1; omega))
          · rw [← HA.out.1, HS.out, if_neg (by omega)]; simp
          · rw [← HA.out.2, HS.out, if_neg (by omega)]
    · have hnx : ∀ ty, (Instr.next (.pointer (some ⟨w.heap.size, 0, none⟩)) true ty).run Tryd.prog wr = _ := fun ty => Lib.run_next_end_at wr w.heap.size s pos ty hit hp
      have HE0 := Lib.hid (signsF_end s fuel pos hp)
      go_wp2
      try go_ret2
      have h1 : acc = (signsOf s).1 := by rw [← HA.out.1, HE0.out]; simp
      have h2 : true = (signsOf s).2 := by rw [← HA.out.2, HE0.out]
      exact hR.out _ _ ⟨u4, by rw [← h2]; rfl, by rw [← h1]; exact ⟨hown.1, hown.2.imp id (fun ⟨g, c, cur, a, b, rest⟩ => ⟨g, c, cur, a, by omega, rest⟩)⟩, hbw⟩
end Go.Proofs.YtpjocnembjocgaaDoor
