/- Plain: Parse's answer read off what is left of the text. No walk. -/
import Derived.Test.YtpjocnembjocgaaDoorParse
namespace Go.Proofs.YtpjocnembjocgaaDoor

/-- How many signs at the head are of p. -/
def nS (p : Int → Bool) (u : List Int) : Nat := (u.takeWhile p).length
def nb (u : List Int) : Nat := nS (· == 32) u
def hd (u : List Int) : Int := u.headD 10

theorem skip_suf (p : Int → Bool) (l : List Int) (i : Nat) : skipF p l i = i + nS p (l.drop i) := rfl
theorem peek_suf (l : List Int) (i : Nat) : peekF l i = hd (l.drop i) := by
  unfold peekF hd
  rw [List.getD_eq_getElem?_getD, List.headD_eq_head?_getD, List.head?_drop]
theorem cut_suf (l : List Int) (i n : Nat) : cut l i (i + n) = (l.drop i).take n := by unfold cut; rw [Nat.add_sub_cancel_left]

/-- A number: an error or 0, how many signs it takes, the number. -/
def numS' (most : Nat) (u : List Int) : Int × Nat × Nat :=
  let a := nb u
  let k := nS (inR 48 57) (u.drop a)
  let d := enc ((u.drop a).take k)
  if d = [] ∨ (1 < d.length ∧ d.headD 0 = 48) then (4, a, 0) else if most < valF 0 d then (12, a, 0) else (0, a + k, valF 0 d)
theorem numF_suf (most : Nat) (l : List Int) (i : Nat) : numF most l i = ((numS' most (l.drop i)).1, i + (numS' most (l.drop i)).2.1, (numS' most (l.drop i)).2.2) := by
  rw [numF_eq]
  unfold numG blanksF numS' nb
  simp only [skip_suf, List.drop_drop, cut_suf]
  generalize enc (List.take _ _) = d
  by_cases h : d = [] ∨ (1 < d.length ∧ d.headD 0 = 48)
  · simp only [if_pos h]
  · simp only [if_neg h]
    by_cases h2 : most < valF 0 d
    · simp only [if_pos h2]
    · simp only [if_neg h2, Nat.add_assoc]

def quoS (u : List Int) : Int × Nat × List UInt8 :=
  let a := nb u
  if hd (u.drop a) = 34 then
    let k := nS notq (u.drop (a + 1))
    if hd (u.drop (a + 1 + k)) = 34 then (0, a + 1 + k + 1, enc ((u.drop (a + 1)).take k)) else (4, a + 1 + k, [])
  else (4, a, [])
theorem quoF_suf (l : List Int) (i : Nat) : quoF l i = ((quoS (l.drop i)).1, i + (quoS (l.drop i)).2.1, (quoS (l.drop i)).2.2) := by
  rw [quoF_eq]
  unfold quoG blanksF quoS nb
  simp only [skip_suf, peek_suf, List.drop_drop]
  have e1 : i + nS (· == 32) (l.drop i) + 1 = i + (nS (· == 32) (l.drop i) + 1) := by omega
  rw [cut_suf, e1]
  generalize nS (· == 32) (l.drop i) = a
  generalize nS notq (l.drop (i + (a + 1))) = k
  rw [show i + (a + 1) + k = i + (a + 1 + k) by omega]
  by_cases h : hd (l.drop (i + a)) = 34
  · simp only [if_pos h]
    by_cases h2 : hd (l.drop (i + (a + 1 + k))) = 34
    · simp only [if_pos h2]; rfl
    · simp only [if_neg h2]
  · simp only [if_neg h]

def numSE (most : Nat) (u : List Int) (er : Int) : Int × Nat × Nat := if er = 0 then numS' most u else (er, 0, 0)
def quoSE (u : List Int) (er : Int) : Int × Nat × List UInt8 := if er = 0 then quoS u else (er, 0, [])
theorem numE_suf (most : Nat) (l : List Int) (er : Int) (i : Nat) : numE most l er i = ((numSE most (l.drop i) er).1, i + (numSE most (l.drop i) er).2.1, (numSE most (l.drop i) er).2.2) := by
  unfold numE numSE; split
  · exact numF_suf _ _ _
  · rfl
theorem quoE_suf (l : List Int) (er : Int) (i : Nat) : quoE l er i = ((quoSE (l.drop i) er).1, i + (quoSE (l.drop i) er).2.1, (quoSE (l.drop i) er).2.2) := by
  unfold quoE quoSE; split
  · exact quoF_suf _ _
  · rfl

/-- A step whose word is d, u being what is behind the word, k signs long: an error or 0, how many signs it takes, the step. -/
def stepSG (u : List Int) (k : Nat) (d : List UInt8) : Int × Nat × St :=
  let a := numS' mostN u
  if d = wWrite then let t := quoSE (u.drop a.2.1) a.1; (t.1, k + a.2.1 + t.2.1, .write a.2.2 t.2.2)
  else if d = wRead then (a.1, k + a.2.1, .read a.2.2)
  else if d = wTrim then (a.1, k + a.2.1, .trim a.2.2)
  else if d = wFlush ∨ d = wCkpt ∨ d = wRebuild ∨ d = wCheck then (0, k, .plain d)
  else if d = wGreedy ∨ d = wWorth then (a.1, k + a.2.1, .clean (d == wGreedy) a.2.2)
  else if d = wFail ∨ d = wReplace then (a.1, k + a.2.1, .member d a.2.2)
  else if d = wFailat then let c := numSE mostN (u.drop a.2.1) a.1; (c.1, k + a.2.1 + c.2.1, .failAt a.2.2 c.2.2)
  else if d = wCrash then let c := numSE 18446744073709551615 (u.drop a.2.1) a.1; (c.1, k + a.2.1 + c.2.1, .crash a.2.2 c.2.2)
  else (11, 0, .none)
def stepS (u : List Int) : Int × Nat × St := stepSG (u.drop (nS (inR 97 122) u)) (nS (inR 97 122) u) (enc (u.take (nS (inR 97 122) u)))

theorem stepF_suf (l : List Int) (i : Nat) : stepF l i = ((stepS (l.drop i)).1, i + (stepS (l.drop i)).2.1, (stepS (l.drop i)).2.2) := by
  rw [stepF_eq, skip_suf, cut_suf]
  unfold stepS
  rw [List.drop_drop]
  generalize nS (inR 97 122) (l.drop i) = k
  generalize enc ((l.drop i).take k) = d
  unfold stepG stepSG
  have e0 : numE mostN l 0 (i + k) = ((numS' mostN (l.drop (i + k))).1, i + k + (numS' mostN (l.drop (i + k))).2.1, (numS' mostN (l.drop (i + k))).2.2) := by rw [numE_suf]; rfl
  simp only [e0, numE_suf, quoE_suf, List.drop_drop, Nat.add_assoc]
  (repeat' split) <;> rfl

/-- The rounds of Parse on what is left. -/
def parseS : Nat → List Int → Nat → List St → List St × Nat × Int
  | 0, _, _, acc => (acc, 0, 0)
  | f + 1, u, i, acc =>
    if u = [] then (acc, 0, 0)
    else
      let a := nb u
      let u1 := u.drop a
      if hd u1 = 10 then parseS f (u1.drop 1) (i + a + 1) acc
      else if acc.length = 4096 then ([], i + a, 6)
      else
        let r := stepS u1
        let u2 := u1.drop r.2.1
        let b := nb u2
        if r.1 = 0 then
          if hd (u2.drop b) = 10 then parseS f (u2.drop (b + 1)) (i + a + r.2.1 + b + 1) (acc ++ [r.2.2]) else ([], i + a + r.2.1 + b, 4)
        else ([], i + a + r.2.1 + b, r.1)

theorem parseL_suf (l : List Int) : ∀ (f i : Nat) (acc : List St), parseL l f i acc = parseS f (l.drop i) i acc := by
  intro f
  induction f with
  | zero => intro i acc; rfl
  | succ f ih =>
    intro i acc
    rw [parseL, parseS]
    by_cases hi : i < l.length
    · have hne : ¬ l.drop i = [] := by intro h; have := congrArg List.length h; simp at this; omega
      rw [if_pos hi, if_neg hne]
      simp only [blanksF, skip_suf, peek_suf, stepF_suf, List.drop_drop, ih]
      simp only [nb, Nat.add_assoc]
    · rw [if_neg hi, if_pos (List.drop_eq_nil_of_le (by omega))]
theorem parseF_suf (s : ByteArray) (h : s.size ≤ 65536) (hs : (signsOf s).2 = true) : parseF s = parseS ((signsOf s).1.length + 1) (signsOf s).1 0 [] := by
  unfold parseF
  rw [if_neg (by omega), if_neg (by rw [hs]; simp), parseL_suf]; rfl
end Go.Proofs.YtpjocnembjocgaaDoor
