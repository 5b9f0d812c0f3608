/- What Parse does. -/
import Derived.Test.YtpjocnembjocgaaDoorSigns
namespace Go.Proofs.YtpjocnembjocgaaDoor
open Go.RowKit Go.Mi

/-- The rounds of Parse, from a place on, the steps so far: the steps, a place, an error. -/
def parseL (l : List Int) : Nat → Nat → List St → List St × Nat × Int
  | 0, _, acc => (acc, 0, 0)
  | f + 1, i, acc =>
    if i < l.length then
      if peekF l (blanksF l i) = 10 then parseL l f (blanksF l i + 1) acc
      else if acc.length = 4096 then ([], blanksF l i, 6)
      else if (stepF l (blanksF l i)).1 = 0 then
        if peekF l (blanksF l (stepF l (blanksF l i)).2.1) = 10 then parseL l f (blanksF l (stepF l (blanksF l i)).2.1 + 1) (acc ++ [(stepF l (blanksF l i)).2.2])
        else ([], blanksF l (stepF l (blanksF l i)).2.1, 4)
      else ([], blanksF l (stepF l (blanksF l i)).2.1, (stepF l (blanksF l i)).1)
    else (acc, 0, 0)
def parseF (s : ByteArray) : List St × Nat × Int :=
  if 65536 < s.size then ([], 0, 6)
  else if (signsOf s).2 = false then ([], (signsOf s).1.length, 4)
  else parseL (signsOf s).1 ((signsOf s).1.length + 1) 0 []

theorem signsF_len (s : ByteArray) : ∀ (f pos : Nat), (signsF s f pos).1.length ≤ s.size - pos := by
  intro f
  induction f with
  | zero => intro pos; simp [signsF]
  | succ f ih =>
    intro pos
    rw [signsF]
    split
    · rename_i hp
      split
      · simp
      · have := ih (pos + (Utf8.decode s pos).2)
        have hw := width_pos s pos hp
        simp only [List.length_cons]; omega
    · simp
theorem signsF_bd (s : ByteArray) : ∀ (f pos : Nat), ∀ r ∈ (signsF s f pos).1, 0 ≤ r ∧ r ≤ 2147483647 := by
  intro f
  induction f with
  | zero => intro pos; simp [signsF]
  | succ f ih =>
    intro pos
    rw [signsF]
    split
    · split
      · simp
      · intro r hr
        rcases List.mem_cons.1 hr with rfl | hr
        · have := decode_le s pos; omega
        · exact ih _ r hr
    · simp
theorem signs_len (s : ByteArray) : (signsOf s).1.length ≤ s.size := signsF_len s _ 0
theorem signs_bd (s : ByteArray) : ∀ r ∈ (signsOf s).1, 0 ≤ r ∧ r ≤ 2147483647 := signsF_bd s _ 0

theorem info35 : (Tryd.prog.info? 35).map (fun i => (i.zero, i.size, i.bytes)) = some (some .nilIface, 1, 16) := by kernel_rfl

theorem build_step (v : Value) (h : v.oneCell' = true) (W : World) : (Instr.buildSlice 24 1 #[(0, v)]).run Tryd.prog W = .ok (.slice (some ⟨W.heap.size, 0, none⟩) 1 1) (W.alloc (.cells #[v] 35)) := by
  cases v
  case agg => cases h
  case tuple => cases h
  all_goals kernel_rfl

def ParsePost (r : List St × Nat × Int) (w : World) (e : Ending) (w' : World) : Prop :=
  ∃ v, e = .returned (.tuple #[v, .int .i64 r.2.1, .int .i64 r.2.2]) ∧ w'.ownsRow w.heap.size 35 1 v r.1.length (r.1.map St.val) ∧ Below w.heap.size w w'

theorem ownsRow_base {w : World} {base base' : Nat} {e : TypeId} {size : Nat} {v : Value} {n : Nat} {xs : List Value} (h : w.ownsRow base e size v n xs) (hb : base' ≤ base) : w.ownsRow base' e size v n xs :=
  ⟨h.1, h.2.imp id (fun ⟨g, c, cur, a, b, rest⟩ => ⟨g, c, cur, a, by omega, rest⟩)⟩

theorem numE_ge (most : Nat) (l : List Int) (er : Int) (i : Nat) : i ≤ (numE most l er i).2.1 := by
  unfold numE
  have h1 := skip_ge (· == 32) l i
  have h2 := skip_ge (inR 48 57) l (blanksF l i)
  unfold blanksF at *
  split
  · rw [numF_eq]; unfold numG blanksF
    split
    · exact h1
    · split
      · exact h1
      · exact Nat.le_trans h1 h2
  · exact Nat.le_refl _
theorem quoE_ge (l : List Int) (er : Int) (i : Nat) : i ≤ (quoE l er i).2.1 := by
  unfold quoE
  have h1 := skip_ge (· == 32) l i
  have h2 := skip_ge notq l (blanksF l i + 1)
  split
  · rw [quoF_eq]; unfold quoG
    split
    · split
      · show i ≤ skipF notq l (blanksF l i + 1) + 1
        unfold blanksF at *; omega
      · show i ≤ skipF notq l (blanksF l i + 1)
        unfold blanksF at *; omega
    · exact h1
  · exact Nat.le_refl _
theorem stepF_ge (l : List Int) (i : Nat) : i ≤ (stepF l i).2.1 := by
  rw [stepF_eq]
  have hk := skip_ge (inR 97 122) l i
  generalize skipF (inR 97 122) l i = k at *
  generalize enc (cut l i k) = d
  have ha := numE_ge mostN l 0 k
  have hb := numE_ge mostN l (numE mostN l 0 k).1 (numE mostN l 0 k).2.1
  have hc := numE_ge 18446744073709551615 l (numE mostN l 0 k).1 (numE mostN l 0 k).2.1
  have hd := quoE_ge l (numE mostN l 0 k).1 (numE mostN l 0 k).2.1
  unfold stepG
  (repeat' split) <;> simp only [] <;> omega

theorem blanks_le (l : List Int) (i : Nat) (h : i ≤ l.length) : blanksF l i ≤ l.length := skip_le _ _ _ h
theorem numE_le' (most : Nat) (l : List Int) (er : Int) (i : Nat) (hi : i ≤ l.length) : (numE most l er i).2.1 ≤ l.length := by
  unfold numE
  have h1 := blanks_le l i hi
  have h2 := skip_le (inR 48 57) l (blanksF l i) h1
  split
  · rw [numF_eq]; unfold numG
    split
    · exact h1
    · split
      · exact h1
      · exact h2
  · exact hi
theorem quoE_le (l : List Int) (er : Int) (i : Nat) (hi : i ≤ l.length) : (quoE l er i).2.1 ≤ l.length := by
  unfold quoE
  have h1 := blanks_le l i hi
  split
  · rw [quoF_eq]; unfold quoG
    split
    · rename_i hq
      have ha : blanksF l i < l.length := by
        rcases Nat.lt_or_ge (blanksF l i) l.length with hh | hh
        · exact hh
        · rw [peek_ge hh] at hq; cases hq
      have h2 := skip_le notq l (blanksF l i + 1) ha
      split
      · rename_i hk
        show skipF notq l (blanksF l i + 1) + 1 ≤ l.length
        rcases Nat.lt_or_ge (skipF notq l (blanksF l i + 1)) l.length with hh | hh
        · exact hh
        · rw [peek_ge hh] at hk; cases hk
      · exact h2
    · exact h1
  · exact hi
theorem stepF_le (l : List Int) (i : Nat) (hi : i ≤ l.length) : (stepF l i).2.1 ≤ l.length := by
  rw [stepF_eq]
  have hk := skip_le (inR 97 122) l i hi
  generalize skipF (inR 97 122) l i = k at *
  generalize enc (cut l i k) = d
  have ha := numE_le' mostN l 0 k hk
  have hb := numE_le' mostN l (numE mostN l 0 k).1 (numE mostN l 0 k).2.1 ha
  have hc := numE_le' 18446744073709551615 l (numE mostN l 0 k).1 (numE mostN l 0 k).2.1 ha
  have hd := quoE_le l (numE mostN l 0 k).1 (numE mostN l 0 k).2.1 ha
  unfold stepG
  (repeat' split) <;> simp only [] <;> omega

/-- What holds of Parse's state at a round's head: the answer N is still what the rest gives. -/
def PRel (l : List Int) (N : List St × Nat × Int) (i : Nat) (er : Int) (xs : List Value) : Prop :=
  (er = 0 → ∃ (f : Nat) (acc : List St), l.length + 1 ≤ f + i ∧ parseL l f i acc = N ∧ xs = acc.map St.val) ∧ (er ≠ 0 → N = ([], i, er))

theorem prel_round {l : List Int} {N : List St × Nat × Int} {i : Nat} {xs : List Value} (h : PRel l N i 0 xs) (hi : i < l.length) :
    (peekF l (blanksF l i) = 10 → PRel l N (blanksF l i + 1) 0 xs) ∧
    (peekF l (blanksF l i) ≠ 10 → xs.length = 4096 → N = ([], blanksF l i, 6)) ∧
    (peekF l (blanksF l i) ≠ 10 → xs.length ≠ 4096 → (stepF l (blanksF l i)).1 ≠ 0 → ∀ v, PRel l N (blanksF l (stepF l (blanksF l i)).2.1) (stepF l (blanksF l i)).1 (xs ++ [v])) ∧
    (peekF l (blanksF l i) ≠ 10 → xs.length ≠ 4096 → (stepF l (blanksF l i)).1 = 0 → peekF l (blanksF l (stepF l (blanksF l i)).2.1) = 10 →
      PRel l N (blanksF l (stepF l (blanksF l i)).2.1 + 1) 0 (xs ++ [(stepF l (blanksF l i)).2.2.val])) ∧
    (peekF l (blanksF l i) ≠ 10 → xs.length ≠ 4096 → (stepF l (blanksF l i)).1 = 0 → peekF l (blanksF l (stepF l (blanksF l i)).2.1) ≠ 10 →
      ∀ v, PRel l N (blanksF l (stepF l (blanksF l i)).2.1) 4 (xs ++ [v])) := by
  obtain ⟨f, acc, hf, hN, hx⟩ := h.1 rfl
  obtain ⟨f, rfl⟩ : ∃ g, f = g + 1 := ⟨f - 1, by omega⟩
  rw [parseL, if_pos hi] at hN
  have hge := skip_ge (· == 32) l i
  have hl : xs.length = acc.length := by rw [hx, List.length_map]
  have hge2 : ∀ r, i < r → True := fun _ _ => trivial
  refine ⟨fun h1 => ?_, fun h1 h2 => ?_, fun h1 h2 h3 v => ?_, fun h1 h2 h3 h4 => ?_, fun h1 h2 h3 h4 v => ?_⟩
  · rw [if_pos h1] at hN
    exact ⟨fun _ => ⟨f, acc, by unfold blanksF at *; omega, hN, hx⟩, fun h => absurd rfl h⟩
  · rw [if_neg h1, if_pos (by omega)] at hN
    exact hN.symm
  · rw [if_neg h1, if_neg (by omega), if_neg h3] at hN
    exact ⟨fun h => absurd h h3, fun _ => hN.symm⟩
  · rw [if_neg h1, if_neg (by omega), if_pos h3, if_pos h4] at hN
    refine ⟨fun _ => ⟨f, acc ++ [(stepF l (blanksF l i)).2.2], ?_, hN, by rw [hx]; simp⟩, fun h => absurd rfl h⟩
    have := stepF_ge l (blanksF l i)
    have h6 := skip_ge (· == 32) l (stepF l (blanksF l i)).2.1
    unfold blanksF at *
    omega
  · rw [if_neg h1, if_neg (by omega), if_pos h3, if_neg h4] at hN
    exact ⟨(fun h => by cases h), fun _ => hN.symm⟩

theorem row_len {w : World} {base : Nat} {e : TypeId} {v y : Value} {xs : List Value} (h : w.ownsRow base e 1 v (xs.length + 1) (xs ++ [y])) : w.ownsRow base e 1 v (xs ++ [y]).length (xs ++ [y]) := by simpa using h
theorem shape_row {w : World} {base : Nat} {e : TypeId} {size : Nat} {v : Value} {n : Nat} {xs : List Value} (h : w.ownsRow base e size v n xs) : ∃ a cap, v = .slice a n cap := by
  rcases h.2 with ⟨rfl, h0⟩ | ⟨g, cap, cur, hv', _⟩
  · exact ⟨none, 0, by rw [h0]⟩
  · exact ⟨_, _, hv'⟩

set_option maxHeartbeats 4000000 in
set_option maxRecDepth 100000 in
theorem parse_any (s : ByteArray) (w : World) (hs : s.size ≤ 1000000) (hE : Env w) :
    Calls Tryd.prog 11 #[.string s] w (ParsePost (parseF s) w) := by
  refine post_hid ?_; intro R hR
  obtain ⟨i0, hi0, hz0, hz1, hz2⟩ := info_parts info35
  have HN := Lib.hid (show parseF s = (if 65536 < s.size then ([], 0, 6) else if (signsOf s).2 = false then ([], (signsOf s).1.length, 4) else parseL (signsOf s).1 ((signsOf s).1.length + 1) 0 []) from rfl)
  generalize hN : parseF s = N at *
  clear hN
  have hlen := signs_len s
  have HB := Lib.hid (signs_bd s)
  by_cases hsz : 65536 < s.size
  · have HN' : Hid (N = ([], 0, 6)) := Lib.hid (by rw [HN.out, if_pos hsz])
    clear HN
    go_enter Tryd.func11, Tryd.ntmps11
    go_wp2_with fail
    refine (signs_any s w hs hE).mono ?_
    rintro e w1 ⟨v, rfl, hv, hb⟩
    go_wp2
    try go_ret3
    exact hR.out _ _ ⟨.slice none 0 0, by rw [HN'.out]; rfl, by rw [HN'.out]; exact World.ownsRow_nil _ _ _ _, hb⟩
  · cases hg : (signsOf s).2 with
    | false =>
      have HN' : Hid (N = ([], (signsOf s).1.length, 4)) := Lib.hid (by rw [HN.out, if_neg hsz, if_pos hg])
      clear HN
      have HG := Lib.hid hg; clear hg
      go_enter Tryd.func11, Tryd.ntmps11
      go_wp2_with fail
      refine (signs_any s w hs hE).mono ?_
      rintro e w1 ⟨v, rfl, hv, hb⟩
      rw [HG.out]
      obtain ⟨a, cap, hva⟩ : ∃ a cap, v = .slice a (signsOf s).1.length cap := by
        rcases hv.2 with ⟨rfl, h0⟩ | ⟨g, cap, cur, hv', _⟩
        · exact ⟨none, 0, by rw [h0]⟩
        · exact ⟨_, _, hv'⟩
      rw [hva] at hv ⊢
      clear hva
      go_wp2
      try go_ret3
      exact hR.out _ _ ⟨.slice none 0 0, by rw [HN'.out]; rfl, by rw [HN'.out]; exact World.ownsRow_nil _ _ _ _, hb⟩
    | true =>
      have HN' : Hid (N = parseL (signsOf s).1 ((signsOf s).1.length + 1) 0 []) := Lib.hid (by rw [HN.out, if_neg hsz, if_neg (by rw [hg]; simp)])
      clear HN
      have HG := Lib.hid hg; clear hg
      go_enter Tryd.func11, Tryd.ntmps11
      go_wp2_with fail
      refine (signs_any s w hs hE).mono ?_
      rintro e w1 ⟨v, rfl, hv, hb⟩
      rw [HG.out]
      clear HG
      generalize (signsOf s).1 = l at *
      obtain ⟨a, cap, hva⟩ : ∃ a cap, v = .slice a l.length cap := by
        rcases hv.2 with ⟨rfl, h0⟩ | ⟨g, cap, cur, hv', _⟩
        · exact ⟨none, 0, by rw [h0]⟩
        · exact ⟨_, _, hv'⟩
      rw [hva] at hv ⊢
      clear hva
      have hS0 : Scan (w1.alloc (.cells #[.slice a l.length cap, .int .i64 0, .int .i64 0] 57)) w1.heap.size 57 l 0 0 := by
        refine ⟨by omega, by omega, _, alloc_new _ _, ⟨_, hv.alloc _⟩, fun k hk => (hv.lt k hk).2⟩
      have hb0 : Below w.heap.size w (w1.alloc (.cells #[.slice a l.length cap, .int .i64 0, .int .i64 0] 57)) := hb.alloc hb.size _
      have hP0 : PRel l N 0 0 [] := ⟨fun _ => ⟨l.length + 1, [], by omega, HN'.out.symm, rfl⟩, fun h => absurd rfl h⟩
      have hsz1 : w.heap.size ≤ w1.heap.size := hb.size
      have h7 : 7 ≤ w1.heap.size := Nat.le_trans hE.size hsz1
      clear HN' hb hv
      go_wp2_with fail
      go_loopg [8] (l.length + 2) (fun k v wr => ∃ (i : Nat) (er : Int) (xs : List Value), k = (if er = 0 then l.length + 2 - i else 0) ∧ Scan wr w1.heap.size 57 l i er ∧
        wr.ownsRow (w1.heap.size + 1) 35 1 v xs.length xs ∧ (xs.length ≤ 4097 ∧ (er = 0 → xs.length ≤ 4096)) ∧ Below w.heap.size w wr ∧ PRel l N i er xs)
      case atStart => exact ⟨0, 0, [], by simp, hS0, World.ownsRow_nil _ _ _ _, ⟨by simp, by simp⟩, hb0, hP0⟩
      case round =>
        clear hS0 hb0 hP0
        obtain ⟨i, er, xs, hk, hS, hown, ⟨hxs, hxs0⟩, hbw, hP⟩ := hrel
        have HX := Lib.hid hxs0; clear hxs0
        have HK := Lib.hid hk; clear hk
        have HP := Lib.hid hP; clear hP
        have hlt := hS.lt
        have hEr := hE.below hbw hE.size
        obtain ⟨ao, cap', hu⟩ := shape_row hown
        have HU := Lib.hid hu; clear hu
        obtain ⟨c0, c1, c2, f1, f2⟩ := hS.cells
        have hSl : (∃ a cap, wr.cell? ⟨w1.heap.size, 0, none⟩ = some (.slice a l.length cap)) := by
          rcases hS.row with ⟨h0, h1⟩ | ⟨g, cap, h1, _⟩
          · exact ⟨none, 0, by rw [h1, h0]; rfl⟩
          · exact ⟨_, _, h1⟩
        obtain ⟨sa, sc, c0'⟩ := hSl
        clear c0
        have hil := hS.here
        by_cases he : er = 0
        · subst he
          by_cases hi : i < l.length
          · have HR := Lib.hid (prel_round HP.out hi)
            have hiI : ((i : Int) < (l.length : Int)) := by omega
            have hw2sz : w.heap.size ≤ wr.heap.size := hbw.size
            go_wp2
            go_quiet (fail)
            go_wp2_with fail
            refine (blanks_any (hS.drewN _)).mono ?_; rintro e w2 ⟨rfl, hS2, hK2⟩
            have hown2 := hK2.owns (w := wr.drewN _) hown (fun k hk e => by have := (hown.lt k hk).1; omega)
            have hbw2 : Below w.heap.size w w2 := hbw.trans (of_drewN (hK2.below (w := wr.drewN _) hw2sz (fun k hk e => by omega)))
            have hlt2 := hS2.lt
            have hale := skip_ge (· == 32) l i
            generalize ha : blanksF l i = a at *
            have hale2 : i ≤ a := by rw [← ha]; exact hale
            have HA10 : Hid (a < l.length + 1) := Lib.hid (by rw [← ha]; have := skip_le (· == 32) l i (by omega); unfold blanksF; omega)
            clear ha hale
            by_cases hp : peekF l a = 10
            · have hp' : (peekF l a != 10) = false := by simp [hp]
              have HP2 := Lib.hid (HR.out.1 hp)
              clear HR hp
              go_wp2_with fail
              refine (peek_any hS2).mono ?_; rintro e w3 ⟨rfl, n3, rfl⟩
              obtain ⟨_, d1, d2, g1, g2⟩ := hS2.cells
              go_wp2_with fail
              refine (peek_any (hS2.drewN n3)).mono ?_; rintro e w3 ⟨rfl, n4, rfl⟩
              have hal := hS2.here
              have hal2 := hS2.len
              have ha3 : a < l.length + 1 := HA10.out
              go_wp2_with fail
              go_roundg (l.length + 2 - (a + 1))
              case measure => have := HK.out; simp only [if_true] at this; omega
              case rel =>
                refine ⟨a + 1, 0, xs, (if_pos rfl).symm, (hS2.drewN _).set_i (a + 1) (by omega), ?_, ⟨hxs, fun _ => HX.out trivial⟩, ?_, HP2.out⟩
                · exact (Keeps.trans (Keeps.drewN (M := (· = w1.heap.size)) _ _) (Keeps.setCell _ _ _ (fun _ => rfl))).owns (w := w2) hown2 (fun k hk e => by have := (hown2.lt k hk).1; omega)
                · exact hbw2.trans ((Keeps.trans (Keeps.drewN (M := (· = w1.heap.size)) _ _) (Keeps.setCell _ _ _ (fun _ => rfl))).below (w := w2) hbw2.size (fun k hk e => by omega))
            · have hp' : (peekF l a != 10) = true := by simp [hp]
              by_cases hx6 : xs.length = 4096
              · have HN6 := Lib.hid (HR.out.2.1 hp hx6)
                have hx6' : ((xs.length : Int) == 4096) = true := by rw [beq_iff_eq]; omega
                clear HR hp hx6
                rw [HU.out]
                go_wp2_with fail
                refine (peek_any hS2).mono ?_; rintro e w3 ⟨rfl, n3, rfl⟩
                obtain ⟨_, d1, d2, g1, g2⟩ := hS2.cells
                go_wp2
                go_quiet (fail)
                go_wp2
                try go_ret3
                refine hR.out _ _ ⟨.slice none 0 0, by rw [HN6.out]; rfl, by rw [HN6.out]; exact World.ownsRow_nil _ _ _ _, to_drewN (to_drewN hbw2)⟩
              · have hx6' : ((xs.length : Int) == 4096) = false := by rw [beq_eq_false_iff_ne]; omega
                have hHR := HR.out.2.2
                have HRc := Lib.hid (show _ ∧ _ ∧ _ from ⟨hHR.1 hp hx6, hHR.2.1 hp hx6, hHR.2.2 hp hx6⟩)
                clear HR hp hHR
                have hx7 : xs.length ≤ 4096 := HX.out trivial
                rw [HU.out]
                rw [HU.out] at hown2
                go_wp2_with fail
                refine (peek_any hS2).mono ?_; rintro e w3 ⟨rfl, n3, rfl⟩
                have hE2 : Env (w2.drewN n3) := hE.below (to_drewN hbw2) hE.size
                go_wp2_with fail
                refine (step_any (hS2.drewN n3) HB.out hE2 h7).mono ?_
                rintro e w4 ⟨v, rfl, hS4, hK4, hv1, hv2⟩
                have HV := Lib.hid hv2; clear hv2
                have hown4 := hK4.owns (w := w2.drewN n3) hown2 (fun k hk e => by have := (hown2.lt k hk).1; omega)
                have hbw4 : Below w.heap.size w w4 := hbw2.trans (of_drewN (hK4.below (w := w2.drewN n3) hbw2.size (fun k hk e => by omega)))
                have hlt4 := hS4.lt
                have hage := Nat.le_trans hale2 (stepF_ge l a)
                have hjL := Lib.hid (skip_le (· == 32) l _ (stepF_le l a (Nat.le_of_lt_succ HA10.out)))
                generalize hr : stepF l a = r at *
                clear hr
                rcases hv1 with rfl | ⟨t, x, rfl⟩
                all_goals
                  go_wp2_with (at_builtin; refine wpList_append_own _ rfl _ _ 24 rfl (w1.heap.size + 1) 35 i0 .nilIface 1 16 Tryd.underlying24 hi0 hz0 hz1 hz2 rfl (by decide) _ _ _ rfl (hown4.alloc _) ⟨w4.heap.size, 0, none⟩ 1 1 [_] rfl rfl (cell_one_new _ _ _) (fun u hu => by rw [List.mem_singleton.1 hu]; rfl) (by unfold maxLen; omega) (by omega) (by simp; omega) ?_)
                  intro v' w5 hown5 hgrow _
                  have hK5 : Keeps (fun k => some k = (Value.slice ao xs.length cap').ownBlock) w4 w5 := (Keeps.alloc _ _).trans (Keeps.of_grown hgrow (fun k _ e => e.symm))
                  have hge5 : ∀ k, some k = (Value.slice ao xs.length cap').ownBlock → w1.heap.size + 1 ≤ k := fun k e => (hown4.lt k e.symm).1
                  have hS5 : Scan w5 w1.heap.size 57 l r.2.1 r.1 := hS4.keeps hK5 (fun k hk e => by have := hge5 k e; omega)
                  have hbw5 : Below w.heap.size w w5 := hbw4.trans (hK5.below hbw4.size (fun k hk e => by have := hge5 k e; omega))
                  have hown5' := row_len hown5
                  clear hown5 hgrow hK5 hge5
                  go_wp2_with fail
                  refine (blanks_any hS5).mono ?_; rintro e w6 ⟨rfl, hS6, hK6⟩
                  have hown6 := hK6.owns hown5' (fun k hk e => by have := (hown5'.lt k hk).1; omega)
                  have hbw6 : Below w.heap.size w w6 := hbw5.trans (hK6.below hbw5.size (fun k hk e => by omega))
                  have hlt6 := hS6.lt
                  have hxl : xs.length + 1 ≤ 4097 := by omega
                  obtain ⟨_, k1, k2, q1, q2⟩ := hS6.cells
                  have hl6 := hS6.here
                  have hl7 := hS6.len
                  by_cases hr0 : r.1 = 0
                  · have hr0' : (r.1 == 0) = true := by simpa using hr0
                    rw [hr0] at hS6 k2
                    have HV' := Lib.hid (HV.out hr0)
                    have hjl : Hid (blanksF l r.2.1 ≤ l.length) := hjL
                    have hjge := Nat.le_trans hage (skip_ge (· == 32) l r.2.1)
                    change i ≤ blanksF l r.2.1 at hjge
                    generalize blanksF l r.2.1 = j at *
                    by_cases hp2 : peekF l j = 10
                    · have hp2' : (peekF l j != 10) = false := by simp [hp2]
                      have HP3 := Lib.hid (HRc.out.2.1 hr0 hp2)
                      clear HRc hp2 HV hr0 hr0'
                      go_wp2_with fail
                      refine (peek_any hS6).mono ?_; rintro e w7 ⟨rfl, n7, rfl⟩
                      go_wp2_with fail
                      go_roundg (l.length + 2 - (j + 1))
                      case measure => have := HK.out; simp only [if_true] at this; omega
                      case rel =>
                        refine ⟨j + 1, 0, xs ++ [_], (if_pos rfl).symm, (hS6.drewN _).set_i (j + 1) (by have := hjl.out; omega), ?_, ⟨by simpa using hxl, fun _ => by simp; omega⟩, ?_, by have hP3 := HP3.out; rw [← HV'.out] at hP3; exact hP3⟩
                        · exact (Keeps.trans (Keeps.drewN (M := (· = w1.heap.size)) _ _) (Keeps.setCell _ _ _ (fun _ => rfl))).owns (w := w6) hown6 (fun k hk e => by have := (hown6.lt k hk).1; omega)
                        · exact hbw6.trans ((Keeps.trans (Keeps.drewN (M := (· = w1.heap.size)) _ _) (Keeps.setCell _ _ _ (fun _ => rfl))).below (w := w6) hbw6.size (fun k hk e => by omega))
                    · have hp2' : (peekF l j != 10) = true := by simp [hp2]
                      have HP3 := Lib.hid (HRc.out.2.2 hr0 hp2)
                      clear HRc hp2 HV hr0 hr0'
                      go_wp2_with fail
                      refine (peek_any hS6).mono ?_; rintro e w7 ⟨rfl, n7, rfl⟩
                      go_wp2_with fail
                      refine (fail_any 4 (hS6.drewN n7)).mono ?_; rintro e w8 ⟨rfl, hS8, hK8⟩
                      rw [if_pos rfl] at hS8
                      have hown8 := hK8.owns (w := w6.drewN n7) hown6 (fun k hk e => by have := (hown6.lt k hk).1; omega)
                      have hbw8 : Below w.heap.size w w8 := hbw6.trans (of_drewN (hK8.below (w := w6.drewN n7) hbw6.size (fun k hk e => by omega)))
                      obtain ⟨_, m1, m2, p1, p2⟩ := hS8.cells
                      go_wp2_with fail
                      go_roundg 0
                      case measure => have := HK.out; simp only [if_true] at this; omega
                      case rel => exact ⟨j, 4, xs ++ [_], rfl, hS8, hown8, ⟨by simpa using hxl, (fun h => by cases h)⟩, hbw8, HP3.out _⟩
                  · have hr0' : (r.1 == 0) = false := by simpa using hr0
                    have HP3 := Lib.hid (HRc.out.1 hr0)
                    clear HRc HV
                    have HR0 := Lib.hid hr0; clear hr0
                    go_wp2_with fail
                    go_roundg 0
                    case measure => have := HK.out; simp only [if_true] at this; omega
                    case rel => exact ⟨blanksF l r.2.1, r.1, xs ++ [_], (if_neg HR0.out).symm, hS6, hown6, ⟨by simpa using hxl, fun h => absurd h HR0.out⟩, hbw6, HP3.out _⟩
          · have hiI : ¬ ((i : Int) < (l.length : Int)) := by omega
            have hdI : decide ((i : Int) < (l.length : Int)) = false := by simp; omega
            have hN : N = (N.1, 0, 0) ∧ xs = N.1.map St.val := by
              obtain ⟨f, acc, hf, hN, hx⟩ := HP.out.1 rfl
              have : parseL l f i acc = (acc, 0, 0) := by
                cases f with
                | zero => rfl
                | succ f => rw [parseL, if_neg hi]
              rw [this] at hN
              rw [← hN]; exact ⟨rfl, hx⟩
            have HN := Lib.hid hN; clear hN
            go_wp2
            go_quiet (fail)
            go_wp2
            try go_ret3
            refine hR.out _ _ ⟨u8, by rw [HN.out.1]; rfl, ?_, to_drewN hbw⟩
            have := ownsRow_base hown (base' := w.heap.size) (by omega)
            rw [HN.out.2, List.length_map] at this
            exact this
        · have HN := Lib.hid (HP.out.2 he)
          have he' : (er == 0) = false := by simpa using he
          have he2 : (er != 0) = true := by simpa using he
          by_cases hi : i < l.length
          · have hiI : ((i : Int) < (l.length : Int)) := by omega
            go_wp2
            go_quiet (fail)
            go_wp2
            go_quiet (fail)
            go_wp2
            try go_ret3
            refine hR.out _ _ ⟨.slice none 0 0, by rw [HN.out]; rfl, by rw [HN.out]; exact World.ownsRow_nil _ _ _ _, to_drewN (to_drewN hbw)⟩
          · have hiI : ¬ ((i : Int) < (l.length : Int)) := by omega
            have hdI : decide ((i : Int) < (l.length : Int)) = false := by simp; omega
            go_wp2
            go_quiet (fail)
            go_wp2
            go_quiet (fail)
            go_wp2
            try go_ret3
            refine hR.out _ _ ⟨.slice none 0 0, by rw [HN.out]; rfl, by rw [HN.out]; exact World.ownsRow_nil _ _ _ _, to_drewN (to_drewN hbw)⟩
end Go.Proofs.YtpjocnembjocgaaDoor
