/- What the teller's Reads does: the answer of Parse, of a text of up to 4000 bytes. -/
import Derived.Test.YtpjocnembjocgaaDoorTellStep
import Derived.Test.YtpjocnembjocgaaDoorParse
namespace Go.Proofs.YtpjocnembjocgaaDoor
open Go.RowKit Go.Mi

def stay (l : List Int) (p : Nat) : Prop := peekF l p ≠ 32
theorem stay_blanks {l : List Int} {p : Nat} (h : stay l p) : blanksF l p = p := skip_no _ l p (by simp [stay] at h; simp [h])
theorem blanks_stay (l : List Int) (i : Nat) : stay l (blanksF l i) := by
  have := skip_at (· == 32) rfl l (l.length - i) i (Nat.le_refl _)
  intro h; unfold blanksF at h; simp [h] at this
theorem numE_stay {most : Nat} {l : List Int} {er : Int} {i : Nat} (h : er ≠ 0 → stay l i) : (numE most l er i).1 ≠ 0 → stay l (numE most l er i).2.1 := by
  unfold numE
  split
  · rw [numF_eq]; unfold numG
    split
    · intro _; exact blanks_stay l i
    · split
      · intro _; exact blanks_stay l i
      · intro h; exact absurd rfl h
  · intro h2; exact h h2
theorem quoE_stay {l : List Int} {er : Int} {i : Nat} (h : er ≠ 0 → stay l i) : (quoE l er i).1 ≠ 0 → stay l (quoE l er i).2.1 := by
  unfold quoE
  split
  · rw [quoF_eq]; unfold quoG
    split
    · split
      · intro h; exact absurd rfl h
      · intro _
        have := skip_at notq rfl l (l.length - (blanksF l i + 1)) (blanksF l i + 1) (Nat.le_refl _)
        intro h; simp only [] at h; rw [h] at this; cases this
    · intro _; exact blanks_stay l i
  · intro h2; exact h h2
theorem stepF_stay {l : List Int} {i : Nat} (h : stay l i) : (stepF l i).1 ≠ 0 → stay l (stepF l i).2.1 := by
  rw [stepF_eq]
  generalize skipF (inR 97 122) l i = k
  generalize enc (cut l i k) = d
  have ha := numE_stay (most := mostN) (l := l) (er := 0) (i := k) (fun h => absurd rfl h)
  have hb := numE_stay (most := mostN) ha
  have hc := numE_stay (most := 18446744073709551615) ha
  have hd := quoE_stay ha
  unfold stepG
  simp only []
  generalize numE mostN l 0 k = A at *
  generalize numE mostN l A.1 A.2.1 = B at *
  generalize numE 18446744073709551615 l A.1 A.2.1 = C at *
  generalize quoE l A.1 A.2.1 = D at *
  (repeat' split) <;> first | exact ha | exact hb | exact hc | exact hd | exact fun _ => h | exact fun h => absurd rfl h

/-- The round of Reads, out of Parse's. -/
theorem reads_round {l : List Int} {N : List St × Nat × Int} {i : Nat} {xs : List Value} (h : PRel l N i 0 xs) (hi : i < l.length) (hx : xs.length < 4096) :
    (peekF l (blanksF l i) = 10 → PRel l N (blanksF l i + 1) 0 xs) ∧
    (peekF l (blanksF l i) ≠ 10 → (stepF l (blanksF l i)).1 ≠ 0 → N = ([], (stepF l (blanksF l i)).2.1, (stepF l (blanksF l i)).1)) ∧
    (peekF l (blanksF l i) ≠ 10 → (stepF l (blanksF l i)).1 = 0 → peekF l (blanksF l (stepF l (blanksF l i)).2.1) = 10 →
      PRel l N (blanksF l (stepF l (blanksF l i)).2.1 + 1) 0 (xs ++ [(stepF l (blanksF l i)).2.2.val])) ∧
    (peekF l (blanksF l i) ≠ 10 → (stepF l (blanksF l i)).1 = 0 → peekF l (blanksF l (stepF l (blanksF l i)).2.1) ≠ 10 →
      N = ([], blanksF l (stepF l (blanksF l i)).2.1, 4)) := by
  obtain ⟨h1, h2, h3, h4, h5⟩ := prel_round h hi
  refine ⟨h1, fun a b => ?_, fun a b c => h4 a (by omega) b c, fun a b c => (h5 a (by omega) b c .nilIface).2 (by decide)⟩
  have := (h3 a (by omega) b .nilIface).2 b
  rw [this, stay_blanks (stepF_stay (blanks_stay l i) b)]

theorem tread_loop_end {l : List Int} {N : List St × Nat × Int} {i : Nat} {xs : List Value} (h : PRel l N i 0 xs) (hi : ¬ i < l.length) : N = (N.1, 0, 0) ∧ xs = N.1.map St.val := by
  obtain ⟨f, acc, hf, hN, hx⟩ := h.1 rfl
  have : parseL l f i acc = (acc, 0, 0) := by
    cases f with
    | zero => rfl
    | succ f => rw [parseL, if_neg hi]
  rw [this] at hN
  rw [← hN]; exact ⟨rfl, hx⟩

set_option maxHeartbeats 4000000 in
set_option maxRecDepth 100000 in
theorem reads_any (s : ByteArray) (w : World) (hs : s.size ≤ 4000) (hE : Env w) :
    Calls Tryd.prog 12 #[.string s] w (ParsePost (parseF s) w) := by
  refine post_hid ?_; intro R hR
  obtain ⟨i0, hi, hz0, hz1, hz2⟩ := info_parts info21
  obtain ⟨k0, hk0, kz0, kz1, kz2⟩ := info_parts info35
  have HN := Lib.hid (show parseF s = (if 65536 < s.size then ([], 0, 6) else if (signsOf s).2 = false then ([], (signsOf s).1.length, 4) else parseL (signsOf s).1 ((signsOf s).1.length + 1) 0 []) from rfl)
  generalize hN : parseF s = N at *
  clear hN
  have hlen := signs_len s
  have HB := Lib.hid (signs_bd s)
  go_enter Tryd.func12, Tryd.ntmps12
  go_wp2
  go_loopg [5] (s.size + 1) (fun k v wr => ∃ (pos fuel : Nat) (acc : List Int), k = s.size + 1 - pos ∧ wr.heap[w.heap.size]? = some (.stringIter s pos) ∧ wr.ownsRow (w.heap.size + 1) 21 1 v acc.length (acc.map (Value.int .i32)) ∧ Below w.heap.size w wr ∧ acc.length ≤ pos ∧ s.size + 1 ≤ fuel + pos ∧
    (acc ++ (signsF s fuel pos).1 = (signsOf s).1 ∧ (signsF s fuel pos).2 = (signsOf s).2))
  case atStart =>
    exact ⟨0, s.size + 1, [], rfl, World.iter_heap w s 0, World.ownsRow_nil _ _ _ _, (Below.refl _ w).alloc (Nat.le_refl _) _, Nat.le_refl _, Nat.le_refl _, rfl, rfl⟩
  case round =>
    obtain ⟨pos, fuel, acc, hk, hit, hown, hbw, hal, hfu, hacc⟩ := hrel
    have HA := Lib.hid hacc; clear hacc
    have HK := Lib.hid hk; clear hk
    have hsz : w.heap.size < wr.heap.size := lt_of_heap hit
    by_cases hp : pos < s.size
    · obtain ⟨f, rfl⟩ : ∃ f, fuel = f + 1 := ⟨fuel - 1, by omega⟩
      have hnx : ∀ ty, (Instr.next (.pointer (some ⟨w.heap.size, 0, none⟩)) true ty).run Tryd.prog wr = _ := fun ty => Lib.run_next_any_at wr w.heap.size s pos ty hit hp
      have hwd := width_pos s pos hp
      have hd1 := decode_le s pos
      have hit2 := Lib.iterAt_heap wr w.heap.size s pos (pos + (Utf8.decode s pos).2) hit
      have hk2 : Keeps (· = w.heap.size) wr (wr.iterAt w.heap.size s (pos + (Utf8.decode s pos).2)) := ⟨rfl, rfl, rfl, by rw [Lib.iterAt_size]; exact Nat.le_refl _, fun j _ hj => Lib.iterAt_other wr _ j s _ hj⟩
      have hown2 := hk2.owns hown (fun k hk e => by have := (hown.lt k hk).1; omega)
      have hbw2 := Lib.below_iterAt hbw (k := w.heap.size) (Nat.le_refl _) s (pos + (Utf8.decode s pos).2)
      have hsz2 : wr.heap.size ≤ (wr.iterAt w.heap.size s (pos + (Utf8.decode s pos).2)).heap.size := by rw [Lib.iterAt_size]; exact Nat.le_refl _
      have hdt : Lib.decodeGo (s.extract pos s.size) = ((Utf8.decode s pos).1, (Utf8.decode s pos).2) := decode_tail s pos hp
      have hstep : signsF s (f + 1) pos = if (Utf8.decode s pos).1 = 65533 ∧ (Utf8.decode s pos).2 = 1 then ([], false)
        else (((Utf8.decode s pos).1 : Int) :: (signsF s f (pos + (Utf8.decode s pos).2)).1, (signsF s f (pos + (Utf8.decode s pos).2)).2) := by rw [signsF, if_pos hp]
      have HS := Lib.hid hstep; clear hstep
      have HT := Lib.hid hdt; clear hdt
      generalize hdr : (Utf8.decode s pos).1 = r at *
      generalize hdw : (Utf8.decode s pos).2 = d at *
      clear hdr hdw hk2 hit hown hbw
      generalize wr.iterAt w.heap.size s (pos + d) = wi at *
      have hEi : Env wi := hE.below hbw2 hE.size
      have hc := Tryd.utf8_DecodeRuneInString (s.extract pos s.size) wi hEi.tabs
      rw [HT.out] at hc
      have HC := Lib.hid hc
      clear hc HT
      by_cases hrd : r = 65533 ∧ d = 1
      · obtain ⟨rfl, rfl⟩ := hrd
        have HN1 := Lib.hid (show signsF s (f + 1) pos = ([], false) by rw [HS.out, if_pos ⟨rfl, rfl⟩])
        go_wp2_with fail
        refine HC.out.mono ?_
        rintro e w3 ⟨rfl, hb3⟩
        obtain ⟨ao, cp, rfl⟩ := shape_row hown2
        go_wp2
        try go_ret3
        have h1 : acc = (signsOf s).1 := by rw [← HA.out.1, HN1.out]; simp
        have h2 : (signsOf s).2 = false := by rw [← HA.out.2, HN1.out]
        have hN' : N = ([], acc.length, 4) := by rw [HN.out, if_neg (by omega), if_pos h2, ← h1]
        exact hR.out _ _ ⟨.slice none 0 0, by rw [hN']; rfl, by rw [hN']; exact World.ownsRow_nil _ _ _ _, hbw2.trans (hb3.mono (by omega))⟩
      · have hbr : ((r : Int) == 65533) = true ∧ ((d : Int) == 1) = false ∨ ((r : Int) == 65533) = false := by
          simp only [beq_iff_eq, beq_eq_false_iff_ne]; omega
        have HRD := Lib.hid hrd; clear hrd
        have hok : (∃ y, IntKind.i32.wrap (r : Int) = y) := ⟨_, rfl⟩
        rcases hbr with ⟨hr1, hd1'⟩ | hr1
        all_goals
          go_wp2_with fail
          refine HC.out.mono ?_
          rintro e w3 ⟨rfl, hb3⟩
          have hk3 : Keeps (fun k => wi.heap.size ≤ k) wi w3 := Keeps.of_below hb3 (fun _ _ h => h)
          have hown3 := hk3.owns hown2 (fun k hk e => by have := (hown2.lt k hk).2; omega)
          have hit3 := hk3.heap hit2 (fun e => by have := lt_of_heap hit2; omega)
          have hbw3 := hbw2.trans (hb3.mono (by omega))
          have hsz3 := hb3.size
          go_wp2_with (at_builtin; refine wpList_append_own _ rfl _ _ 52 rfl (w.heap.size + 1) 21 i0 (.int .i32 0) 1 4 Tryd.underlying52 hi hz0 hz1 hz2 rfl (by decide) _ _ _ rfl (hown3.alloc _) ⟨w3.heap.size, 0, none⟩ 1 1 [.int .i32 r] rfl rfl ?c1 ?c2 ?c3 ?c4 ?c5 ?_)
          case c1 =>
            intro j u hj
            match j, hj with
            | 0, hj => simp at hj; subst hj; simp [Addr.add]
          case c2 => intro u hu; simp at hu; subst hu; rfl
          case c3 => unfold maxLen; omega
          case c4 => omega
          case c5 => simp; omega
          intro v' w2 hown' hgrow _
          have hK2 : Keeps (fun k => some k = u5.ownBlock) w3 w2 := (Keeps.alloc _ _).trans (Keeps.of_grown hgrow (fun k _ e => e.symm))
          go_wp2
          go_roundg (s.size + 1 - (pos + d))
          case measure => rw [HK.out]; omega
          case rel =>
            refine ⟨pos + d, f, acc ++ [(r : Int)], rfl, hK2.heap hit3 (fun e => by have := (hown3.lt _ e.symm).1; omega), ?_, ?_, by simp; omega, by omega, ?_, ?_⟩
            · simpa using hown'
            · exact hbw3.trans (hK2.below (by omega) (fun k hk e => by have := (hown3.lt _ e.symm).1; omega))
            · rw [← HA.out.1, HS.out, if_neg HRD.out]; simp
            · rw [← HA.out.2, HS.out, if_neg HRD.out]
    · have hnx : ∀ ty, (Instr.next (.pointer (some ⟨w.heap.size, 0, none⟩)) true ty).run Tryd.prog wr = _ := fun ty => Lib.run_next_end_at wr w.heap.size s pos ty hit hp
      have HE0 := Lib.hid (signsF_end s fuel pos hp)
      have h1 : acc = (signsOf s).1 := by rw [← HA.out.1, HE0.out]; simp
      have h2 : (signsOf s).2 = true := by rw [← HA.out.2, HE0.out]
      have hN' : N = parseL acc (acc.length + 1) 0 [] := by rw [HN.out, if_neg (by omega), if_neg (by rw [h2]; simp), ← h1]
      have HB2 : Hid (∀ r ∈ acc, 0 ≤ r ∧ r ≤ 2147483647) := Lib.hid (by rw [h1]; exact HB.out)
      have hal2 : acc.length ≤ 4000 := by rw [h1]; omega
      have hP0 : PRel acc N 0 0 [] := ⟨fun _ => ⟨acc.length + 1, [], by omega, hN'.symm, rfl⟩, fun h => absurd rfl h⟩
      have HP0 := Lib.hid hP0
      clear h1 h2 hN' hP0 HN HA HE0 HB
      obtain ⟨ao, cp, rfl⟩ := shape_row hown
      have hS0 : Scan (wr.alloc (.cells #[.slice ao acc.length cp, .int .i64 0, .int .i64 0] 64)) wr.heap.size 64 acc 0 0 := by
        refine ⟨by omega, by omega, _, alloc_new _ _, ⟨_, hown.alloc _⟩, fun k hk => (hown.lt k hk).2⟩
      have hb0 : Below w.heap.size w (wr.alloc (.cells #[.slice ao acc.length cp, .int .i64 0, .int .i64 0] 64)) := hbw.alloc hbw.size _
      have hsz1 : w.heap.size ≤ wr.heap.size := hbw.size
      clear hit hown hbw HK hal hfu
      generalize acc = l at *
      go_wp2_with fail
      generalize wr.alloc (.cells #[.slice ao l.length cp, .int .i64 0, .int .i64 0] 64) = w0 at *
      generalize wr.heap.size = B0 at *
      clear hsz hp
      go_loopg [11] (l.length + 2) (fun k v wx => ∃ (i : Nat) (xs : List Value), k = l.length + 2 - i ∧ Scan wx B0 64 l i 0 ∧
        wx.ownsRow (B0 + 1) 35 1 v xs.length xs ∧ xs.length ≤ i ∧ Below w.heap.size w wx ∧ PRel l N i 0 xs)
      case atStart => exact ⟨0, [], rfl, hS0, World.ownsRow_nil _ _ _ _, Nat.le_refl _, hb0, HP0.out⟩
      case round =>
        clear hS0 hb0 HP0
        obtain ⟨i, xs, hk, hS, hown, hxs, hbw, hP⟩ := hrel
        have HK := Lib.hid hk; clear hk
        have HP := Lib.hid hP; clear hP
        have hlt := hS.lt
        obtain ⟨ao2, cap', hu⟩ := shape_row hown
        have HU := Lib.hid hu; clear hu
        obtain ⟨_, c1, c2, f1, f2⟩ := hS.cells
        have hil := hS.here
        by_cases hi : i < l.length
        · have HR := Lib.hid (reads_round HP.out hi (by omega))
          have hiI : ((i : Int) < (l.length : Int)) := by omega
          go_wp2_with fail
          refine (tblanks_any hS).mono ?_; rintro e w2 ⟨rfl, hS2, hK2⟩
          have hown2 := hK2.owns hown (fun k hk e => by have := (hown.lt k hk).1; omega)
          have hbw2 : Below w.heap.size w w2 := hbw.trans (hK2.below hbw.size (fun k hk e => by omega))
          have hlt2 := hS2.lt
          have hale := skip_ge (· == 32) l i
          generalize ha : blanksF l i = a at *
          have hale2 : i ≤ a := by rw [← ha]; exact hale
          have hal3 : a ≤ l.length := by rw [← ha]; exact skip_le (· == 32) l i (by omega)
          clear ha hale
          obtain ⟨_, d1, d2, g1, g2⟩ := hS2.cells
          by_cases hp : peekF l a = 10
          · have hp' : (peekF l a != 10) = false := by simp [hp]
            have HP2 := Lib.hid (HR.out.1 hp)
            clear HR hp
            go_wp2_with (go_at_call 31; refine (tat_any hS2 _).mono ?_; rintro e w3 ⟨rfl, rfl⟩)
            go_roundg (l.length + 2 - (a + 1))
            case measure => have := HK.out; omega
            case rel =>
              refine ⟨a + 1, xs, rfl, hS2.set_i (a + 1) (by omega), ?_, by omega, ?_, HP2.out⟩
              · exact (Keeps.setCell (M := (· = B0)) _ _ _ (fun _ => rfl)).owns hown2 (fun k hk e => by have := (hown2.lt k hk).1; omega)
              · exact hbw2.trans ((Keeps.setCell (M := (· = B0)) _ _ _ (fun _ => rfl)).below hbw2.size (fun k hk e => by omega))
          · have hp' : (peekF l a != 10) = true := by simp [hp]
            have hHR := HR.out.2
            have HRc := Lib.hid (show _ ∧ _ ∧ _ from ⟨hHR.1 hp, hHR.2.1 hp, hHR.2.2 hp⟩)
            clear HR hp hHR
            rw [HU.out]
            rw [HU.out] at hown2
            go_wp2_with (first | (go_at_call 31; refine (tat_any hS2 _).mono ?_; rintro e w3 ⟨rfl, rfl⟩) | fail)
            refine (tstep_any hS2 hal3 HB2.out).mono ?_
            rintro e w4 ⟨v, rfl, hS4, hK4, hv1, hv2⟩
            have HV := Lib.hid hv2; clear hv2
            have hown4 := hK4.owns hown2 (fun k hk e => by have := (hown2.lt k hk).1; omega)
            have hbw4 : Below w.heap.size w w4 := hbw2.trans (hK4.below hbw2.size (fun k hk e => by omega))
            have hlt4 := hS4.lt
            have hage := Nat.le_trans hale2 (stepF_ge l a)
            have hjL := Lib.hid (skip_le (· == 32) l _ (stepF_le l a hal3))
            generalize hr : stepF l a = r at *
            clear hr
            rcases hv1 with rfl | ⟨t, x, rfl⟩
            all_goals
              go_wp2_with (at_builtin; refine wpList_append_own _ rfl _ _ 24 rfl (B0 + 1) 35 k0 .nilIface 1 16 Tryd.underlying24 hk0 kz0 kz1 kz2 rfl (by decide) _ _ _ rfl (hown4.alloc _) ⟨w4.heap.size, 0, none⟩ 1 1 [_] rfl rfl (cell_one_new _ _ _) (fun u hu => by rw [List.mem_singleton.1 hu]; rfl) (by unfold maxLen; omega) (by omega) (by simp; omega) ?_)
              intro v' w5 hown5 hgrow _
              have hK5 : Keeps (fun k => some k = (Value.slice ao2 xs.length cap').ownBlock) w4 w5 := (Keeps.alloc _ _).trans (Keeps.of_grown hgrow (fun k _ e => e.symm))
              have hge5 : ∀ k, some k = (Value.slice ao2 xs.length cap').ownBlock → B0 + 1 ≤ k := fun k e => (hown4.lt k e.symm).1
              have hS5 : Scan w5 B0 64 l r.2.1 r.1 := hS4.keeps hK5 (fun k hk e => by have := hge5 k e; omega)
              have hbw5 : Below w.heap.size w w5 := hbw4.trans (hK5.below hbw4.size (fun k hk e => by have := hge5 k e; omega))
              have hown5' := row_len hown5
              clear hown5 hgrow hK5 hge5
              obtain ⟨_, m1, m2, p1, p2⟩ := hS5.cells
              by_cases hr0 : r.1 = 0
              · have hr0' : (r.1 == 0) = true := by simpa using hr0
                rw [hr0] at hS5 m2
                have HV' := Lib.hid (HV.out hr0)
                go_wp2_with fail
                refine (tblanks_any hS5).mono ?_; rintro e w6 ⟨rfl, hS6, hK6⟩
                have hown6 := hK6.owns hown5' (fun k hk e => by have := (hown5'.lt k hk).1; omega)
                have hbw6 : Below w.heap.size w w6 := hbw5.trans (hK6.below hbw5.size (fun k hk e => by omega))
                have hlt6 := hS6.lt
                obtain ⟨_, k1, k2, q1, q2⟩ := hS6.cells
                have hl6 := hS6.here
                have hjl : Hid (blanksF l r.2.1 ≤ l.length) := hjL
                have hjge := Nat.le_trans hage (skip_ge (· == 32) l r.2.1)
                change i ≤ blanksF l r.2.1 at hjge
                have HQ := Lib.hid (HRc.out.2 )
                have HQ1 := Lib.hid (fun h => HQ.out.1 hr0 h)
                have HQ2 := Lib.hid (fun h => HQ.out.2 hr0 h)
                clear HRc HQ HV hr0 hr0'
                generalize blanksF l r.2.1 = j at *
                by_cases hp2 : peekF l j = 10
                · have hp2' : (peekF l j != 10) = false := by simp [hp2]
                  have HP3 := Lib.hid (HQ1.out hp2)
                  clear HQ1 HQ2 hp2
                  go_wp2_with (go_at_call 31; refine (tat_any hS6 _).mono ?_; rintro e w7 ⟨rfl, rfl⟩)
                  go_roundg (l.length + 2 - (j + 1))
                  case measure => have := HK.out; omega
                  case rel =>
                    refine ⟨j + 1, xs ++ [_], rfl, hS6.set_i (j + 1) (by have := hjl.out; omega), ?_, by simp; omega, ?_, by have hP3 := HP3.out; rw [← HV'.out] at hP3; exact hP3⟩
                    · exact (Keeps.setCell (M := (· = B0)) _ _ _ (fun _ => rfl)).owns hown6 (fun k hk e => by have := (hown6.lt k hk).1; omega)
                    · exact hbw6.trans ((Keeps.setCell (M := (· = B0)) _ _ _ (fun _ => rfl)).below hbw6.size (fun k hk e => by omega))
                · have hp2' : (peekF l j != 10) = true := by simp [hp2]
                  have HP3 := Lib.hid (HQ2.out hp2)
                  clear HQ1 HQ2 hp2
                  have hS7 := hS6.set_e 4
                  have hb7 : Below w.heap.size w (w6.setCell ⟨B0, 2, none⟩ (.int .i64 4)) := hbw6.trans ((Keeps.setCell (M := (· = B0)) _ _ _ (fun _ => rfl)).below hbw6.size (fun k hk e => by omega))
                  go_wp2_with (go_at_call 31; refine (tat_any hS6 _).mono ?_; rintro e w7 ⟨rfl, rfl⟩)
                  go_quiet (fail)
                  go_wp2
                  try go_ret3
                  exact hR.out _ _ ⟨.slice none 0 0, by rw [HP3.out]; rfl, by rw [HP3.out]; exact World.ownsRow_nil _ _ _ _, to_drewN hb7⟩
              · have hr0' : (r.1 == 0) = false := by simpa using hr0
                have hr1' : (r.1 != 0) = true := by simpa using hr0
                have HP3 := Lib.hid (HRc.out.1 hr0)
                clear HRc HV hr0
                go_wp2
                go_quiet (fail)
                go_wp2
                try go_ret3
                exact hR.out _ _ ⟨.slice none 0 0, by rw [HP3.out]; rfl, by rw [HP3.out]; exact World.ownsRow_nil _ _ _ _, to_drewN hbw5⟩
        · have hiI : ¬ ((i : Int) < (l.length : Int)) := by omega
          have HN := Lib.hid (tread_loop_end HP.out hi)
          go_wp2
          try go_ret3
          refine hR.out _ _ ⟨u11, by rw [HN.out.1]; rfl, ?_, hbw⟩
          have := ownsRow_base hown (base' := w.heap.size) (by omega)
          rw [HN.out.2, List.length_map] at this
          exact this
end Go.Proofs.YtpjocnembjocgaaDoor
