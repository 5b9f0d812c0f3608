/- What the scanner's step does. -/
import Derived.Test.YtpjocnembjocgaaDoorQuo
namespace Go.Proofs.YtpjocnembjocgaaDoor
open Go.RowKit Go.Mi

/-- A step. -/
inductive St where
  | write (n : Nat) (t : List UInt8)
  | read (n : Nat)
  | trim (n : Nat)
  | plain (name : List UInt8)
  | clean (greedy : Bool) (n : Nat)
  | member (name : List UInt8) (m : Nat)
  | failAt (m o : Nat)
  | crash (n k : Nat)
  | none

/-- A step as an interface value. -/
def St.val : St → Value
  | .write n t => .iface 69 (.agg #[.int .i64 n, .string ⟨t.toArray⟩])
  | .read n => .iface 71 (.agg #[.int .i64 n])
  | .trim n => .iface 72 (.agg #[.int .i64 n])
  | .plain s => .iface 74 (.agg #[.string ⟨s.toArray⟩])
  | .clean g n => .iface 76 (.agg #[.bool g, .int .i64 n])
  | .member s m => .iface 78 (.agg #[.string ⟨s.toArray⟩, .int .i64 m])
  | .failAt m o => .iface 80 (.agg #[.int .i64 m, .int .i64 o])
  | .crash n k => .iface 82 (.agg #[.int .i64 n, .int .u64 k])
  | .none => .nilIface

/-- A number, a text, where there may be an error already. -/
def numE (most : Nat) (l : List Int) (er : Int) (i : Nat) : Int × Nat × Nat := if er = 0 then numF most l i else (er, i, 0)
def quoE (l : List Int) (er : Int) (i : Nat) : Int × Nat × List UInt8 := if er = 0 then quoF l i else (er, i, [])

theorem number_gen {w : World} {b i : Nat} {l : List Int} {er : Int} (most : Nat) (hm : most < 18446744073709551616) (h : Scan w b 57 l i er) (hl : ∀ r ∈ l, 0 ≤ r ∧ r ≤ 2147483647) (hE : Env w) (h7 : 7 ≤ b) :
    Calls Tryd.prog 41 #[.pointer (some ⟨b, 0, none⟩), .int .u64 most] w (NumPost 57 b l (numE most l er i) w) := by
  by_cases he : er = 0
  · subst he; unfold numE; rw [if_pos rfl]; exact number_any most hm h hl hE h7
  · unfold numE; rw [if_neg he]
    refine (number_bad most h he).mono ?_
    rintro e w' ⟨rfl, rfl⟩
    exact ⟨0, rfl, h, Keeps.refl _, by omega, fun _ => rfl⟩
theorem quoted_gen {w : World} {b i : Nat} {l : List Int} {er : Int} (h : Scan w b 57 l i er) (hl : ∀ r ∈ l, 0 ≤ r ∧ r ≤ 2147483647) :
    Calls Tryd.prog 42 #[.pointer (some ⟨b, 0, none⟩)] w (QuoPost 57 b l (quoE l er i) w) := by
  by_cases he : er = 0
  · subst he; unfold quoE; rw [if_pos rfl]; exact quoted_any h hl
  · unfold quoE; rw [if_neg he]
    refine (quoted_bad h he).mono ?_
    rintro e w' ⟨rfl, rfl⟩
    exact ⟨rfl, h, Keeps.refl _⟩

def wWrite : List UInt8 := [119, 114, 105, 116, 101]
def wRead : List UInt8 := [114, 101, 97, 100]
def wTrim : List UInt8 := [116, 114, 105, 109]
def wFlush : List UInt8 := [102, 108, 117, 115, 104]
def wCkpt : List UInt8 := [99, 104, 101, 99, 107, 112, 111, 105, 110, 116]
def wRebuild : List UInt8 := [114, 101, 98, 117, 105, 108, 100]
def wCheck : List UInt8 := [99, 104, 101, 99, 107]
def wGreedy : List UInt8 := [103, 114, 101, 101, 100, 121]
def wWorth : List UInt8 := [119, 111, 114, 116, 104]
def wFail : List UInt8 := [102, 97, 105, 108]
def wReplace : List UInt8 := [114, 101, 112, 108, 97, 99, 101]
def wFailat : List UInt8 := [102, 97, 105, 108, 97, 116]
def wCrash : List UInt8 := [99, 114, 97, 115, 104]

def mostN : Nat := 1073741824
/-- What is read of a step, its word being d, which ends at k: an error or 0, the place, the step. -/
def stepG (l : List Int) (i k : Nat) (d : List UInt8) : Int × Nat × St :=
  if d = wWrite then
    let a := numE mostN l 0 k; let t := quoE l a.1 a.2.1; (t.1, t.2.1, .write a.2.2 t.2.2)
  else if d = wRead then let a := numE mostN l 0 k; (a.1, a.2.1, .read a.2.2)
  else if d = wTrim then let a := numE mostN l 0 k; (a.1, a.2.1, .trim a.2.2)
  else if d = wFlush ∨ d = wCkpt ∨ d = wRebuild ∨ d = wCheck then (0, k, .plain d)
  else if d = wGreedy ∨ d = wWorth then let a := numE mostN l 0 k; (a.1, a.2.1, .clean (d == wGreedy) a.2.2)
  else if d = wFail ∨ d = wReplace then let a := numE mostN l 0 k; (a.1, a.2.1, .member d a.2.2)
  else if d = wFailat then
    let a := numE mostN l 0 k; let c := numE mostN l a.1 a.2.1; (c.1, c.2.1, .failAt a.2.2 c.2.2)
  else if d = wCrash then
    let a := numE mostN l 0 k; let c := numE 18446744073709551615 l a.1 a.2.1; (c.1, c.2.1, .crash a.2.2 c.2.2)
  else (11, i, .none)
def stepF (l : List Int) (i : Nat) : Int × Nat × St := stepG l i (skipF (inR 97 122) l i) (enc (cut l i (skipF (inR 97 122) l i)))
theorem stepF_eq (l : List Int) (i : Nat) : stepF l i = stepG l i (skipF (inR 97 122) l i) (enc (cut l i (skipF (inR 97 122) l i))) := rfl

def StepPost (T : TypeId) (b : Nat) (l : List Int) (r : Int × Nat × St) (w : World) (e : Ending) (w' : World) : Prop :=
  ∃ v : Value, e = .returned v ∧ Scan w' b T l r.2.1 r.1 ∧ Keeps (· = b) w w' ∧ (v = .nilIface ∨ ∃ t x, v = .iface t x) ∧ (r.1 = 0 → v = r.2.2.val)

--GEN

def step_Write (l : List Int) (k : Nat) : Int × Nat × St := ((quoE l (numE mostN l 0 k).1 (numE mostN l 0 k).2.1).1, (quoE l (numE mostN l 0 k).1 (numE mostN l 0 k).2.1).2.1, .write (numE mostN l 0 k).2.2 (quoE l (numE mostN l 0 k).1 (numE mostN l 0 k).2.1).2.2)
def step_Read (l : List Int) (k : Nat) : Int × Nat × St := ((numE mostN l 0 k).1, (numE mostN l 0 k).2.1, .read (numE mostN l 0 k).2.2)
def step_Trim (l : List Int) (k : Nat) : Int × Nat × St := ((numE mostN l 0 k).1, (numE mostN l 0 k).2.1, .trim (numE mostN l 0 k).2.2)
def step_Flush (_ : List Int) (k : Nat) : Int × Nat × St := (0, k, .plain wFlush)
def step_Ckpt (_ : List Int) (k : Nat) : Int × Nat × St := (0, k, .plain wCkpt)
def step_Rebuild (_ : List Int) (k : Nat) : Int × Nat × St := (0, k, .plain wRebuild)
def step_Check (_ : List Int) (k : Nat) : Int × Nat × St := (0, k, .plain wCheck)
def step_Greedy (l : List Int) (k : Nat) : Int × Nat × St := ((numE mostN l 0 k).1, (numE mostN l 0 k).2.1, .clean true (numE mostN l 0 k).2.2)
def step_Worth (l : List Int) (k : Nat) : Int × Nat × St := ((numE mostN l 0 k).1, (numE mostN l 0 k).2.1, .clean false (numE mostN l 0 k).2.2)
def step_Fail (l : List Int) (k : Nat) : Int × Nat × St := ((numE mostN l 0 k).1, (numE mostN l 0 k).2.1, .member wFail (numE mostN l 0 k).2.2)
def step_Replace (l : List Int) (k : Nat) : Int × Nat × St := ((numE mostN l 0 k).1, (numE mostN l 0 k).2.1, .member wReplace (numE mostN l 0 k).2.2)
def step_Failat (l : List Int) (k : Nat) : Int × Nat × St := ((numE mostN l (numE mostN l 0 k).1 (numE mostN l 0 k).2.1).1, (numE mostN l (numE mostN l 0 k).1 (numE mostN l 0 k).2.1).2.1, .failAt (numE mostN l 0 k).2.2 (numE mostN l (numE mostN l 0 k).1 (numE mostN l 0 k).2.1).2.2)
def step_Crash (l : List Int) (k : Nat) : Int × Nat × St := ((numE 18446744073709551615 l (numE mostN l 0 k).1 (numE mostN l 0 k).2.1).1, (numE 18446744073709551615 l (numE mostN l 0 k).1 (numE mostN l 0 k).2.1).2.1, .crash (numE mostN l 0 k).2.2 (numE 18446744073709551615 l (numE mostN l 0 k).1 (numE mostN l 0 k).2.1).2.2)

theorem numF_le (most : Nat) (l : List Int) (i : Nat) : (numF most l i).2.2 ≤ most := by
  rw [numF_eq]; unfold numG
  split
  · exact Nat.zero_le _
  · split
    · exact Nat.zero_le _
    · show valF 0 _ ≤ most; omega
theorem numE_le (most : Nat) (l : List Int) (er : Int) (i : Nat) : (numE most l er i).2.2 ≤ most := by
  unfold numE; split
  · exact numF_le _ _ _
  · exact Nat.zero_le _
theorem numE_ok {most : Nat} {l : List Int} {er : Int} {i : Nat} (h : (numE most l er i).1 = 0) : er = 0 := by
  unfold numE at h; split at h
  · assumption
  · exact h
theorem quoE_ok {l : List Int} {er : Int} {i : Nat} (h : (quoE l er i).1 = 0) : er = 0 := by
  unfold quoE at h; split at h
  · assumption
  · exact h
theorem wrap_small (n : Nat) (h : n ≤ 1073741824) : wrap64 (n : Int) = n := by unfold wrap64; omega

theorem w64 {n : Nat} {r : Int × Nat × Nat} (hr : r.2.2 ≤ 1073741824) (h : r.1 = 0 → n = r.2.2) (h0 : r.1 = 0) : wrap64 (n : Int) = r.2.2 := by
  rw [h h0]; exact wrap_small _ hr
theorem mostle (l : List Int) (er : Int) (k : Nat) : (numE mostN l er k).2.2 ≤ 1073741824 := numE_le mostN l er k
theorem val_Write {l : List Int} {k n : Nat} (h : (numE mostN l 0 k).1 = 0 → n = (numE mostN l 0 k).2.2) :
    (step_Write l k).1 = 0 → Value.iface 69 (.agg #[.int .i64 (wrap64 n), .string ⟨(quoE l (numE mostN l 0 k).1 (numE mostN l 0 k).2.1).2.2.toArray⟩]) = (step_Write l k).2.2.val := by
  intro h0
  rw [w64 (mostle l 0 k) h (quoE_ok h0)]; rfl
theorem val_Read {l : List Int} {k n : Nat} (h : (numE mostN l 0 k).1 = 0 → n = (numE mostN l 0 k).2.2) :
    (step_Read l k).1 = 0 → Value.iface 71 (.agg #[.int .i64 (wrap64 n)]) = (step_Read l k).2.2.val := by
  intro h0; rw [w64 (mostle l 0 k) h h0]; rfl
theorem val_Trim {l : List Int} {k n : Nat} (h : (numE mostN l 0 k).1 = 0 → n = (numE mostN l 0 k).2.2) :
    (step_Trim l k).1 = 0 → Value.iface 72 (.agg #[.int .i64 (wrap64 n)]) = (step_Trim l k).2.2.val := by
  intro h0; rw [w64 (mostle l 0 k) h h0]; rfl
theorem val_Greedy {l : List Int} {k n : Nat} (h : (numE mostN l 0 k).1 = 0 → n = (numE mostN l 0 k).2.2) :
    (step_Greedy l k).1 = 0 → Value.iface 76 (.agg #[.bool true, .int .i64 (wrap64 n)]) = (step_Greedy l k).2.2.val := by
  intro h0; rw [w64 (mostle l 0 k) h h0]; rfl
theorem val_Worth {l : List Int} {k n : Nat} (h : (numE mostN l 0 k).1 = 0 → n = (numE mostN l 0 k).2.2) :
    (step_Worth l k).1 = 0 → Value.iface 76 (.agg #[.bool false, .int .i64 (wrap64 n)]) = (step_Worth l k).2.2.val := by
  intro h0; rw [w64 (mostle l 0 k) h h0]; rfl
theorem val_Fail {l : List Int} {k n : Nat} (h : (numE mostN l 0 k).1 = 0 → n = (numE mostN l 0 k).2.2) :
    (step_Fail l k).1 = 0 → Value.iface 78 (.agg #[.string ⟨#[102, 97, 105, 108]⟩, .int .i64 (wrap64 n)]) = (step_Fail l k).2.2.val := by
  intro h0; rw [w64 (mostle l 0 k) h h0]; rfl
theorem val_Replace {l : List Int} {k n : Nat} (h : (numE mostN l 0 k).1 = 0 → n = (numE mostN l 0 k).2.2) :
    (step_Replace l k).1 = 0 → Value.iface 78 (.agg #[.string ⟨#[114, 101, 112, 108, 97, 99, 101]⟩, .int .i64 (wrap64 n)]) = (step_Replace l k).2.2.val := by
  intro h0; rw [w64 (mostle l 0 k) h h0]; rfl
theorem val_Failat {l : List Int} {k n m : Nat} (h : (numE mostN l 0 k).1 = 0 → n = (numE mostN l 0 k).2.2)
    (h2 : (numE mostN l (numE mostN l 0 k).1 (numE mostN l 0 k).2.1).1 = 0 → m = (numE mostN l (numE mostN l 0 k).1 (numE mostN l 0 k).2.1).2.2) :
    (step_Failat l k).1 = 0 → Value.iface 80 (.agg #[.int .i64 (wrap64 n), .int .i64 (wrap64 m)]) = (step_Failat l k).2.2.val := by
  intro h0; rw [w64 (mostle l 0 k) h (numE_ok h0), w64 (mostle l _ _) h2 h0]; rfl
theorem val_Crash {l : List Int} {k n m : Nat} (h : (numE mostN l 0 k).1 = 0 → n = (numE mostN l 0 k).2.2)
    (h2 : (numE 18446744073709551615 l (numE mostN l 0 k).1 (numE mostN l 0 k).2.1).1 = 0 → m = (numE 18446744073709551615 l (numE mostN l 0 k).1 (numE mostN l 0 k).2.1).2.2) :
    (step_Crash l k).1 = 0 → Value.iface 82 (.agg #[.int .i64 (wrap64 n), .int .u64 m]) = (step_Crash l k).2.2.val := by
  intro h0; rw [w64 (mostle l 0 k) h (numE_ok h0), h2 h0]; rfl

set_option maxHeartbeats 2000000 in
set_option maxRecDepth 100000 in
theorem step_wWrite {w : World} {b i : Nat} {l : List Int} (h : Scan w b 57 l i 0) (hl : ∀ r ∈ l, 0 ≤ r ∧ r ≤ 2147483647) (hE : Env w) (h7 : 7 ≤ b) (hd : enc (cut l i (skipF (inR 97 122) l i)) = wWrite) :
    Calls Tryd.prog 27 #[.pointer (some ⟨b, 0, none⟩)] w (StepPost 57 b l (stepF l i) w) := by
  refine post_hid ?_; intro R hR
  have hbw := h.lt
  obtain ⟨_, c1, c2, f1, f2⟩ := h.cells
  have HN := Lib.hid (stepF_eq l i)
  have Hd := Lib.hid hd; clear hd
  generalize hN : stepF l i = N at *
  clear hN
  go_enter Tryd.func27, Tryd.ntmps27
  go_wp2_with fail
  refine (run_any 97 122 (by omega) h hl).mono ?_; rintro e w1 ⟨rfl, hS1, hK1⟩
  generalize skipF (inR 97 122) l i = k at *
  generalize enc (cut l i k) = d at *
  have hE1 : Env w1 := hE.keeps hK1 (fun k hk e => by omega)
  obtain ⟨_, c1, c2, f1, f2⟩ := hS1.cells
  obtain rfl := Hd.out
  have HN' : Hid (N = step_Write l k) := Lib.hid (by rw [HN.out]; rfl)
  clear HN
  unfold wWrite at *
  go_wp2_with fail
  refine (number_gen 1073741824 (by decide) hS1 hl hE1 h7).mono ?_
  rintro e w2 ⟨n, rfl, hS2, hK2, hn, hv⟩
  have hv' := Lib.hid hv; clear hv
  go_wp2_with fail
  refine (quoted_gen hS2 hl).mono ?_
  rintro e w3 ⟨rfl, hS3, hK3⟩
  go_wp2
  try go_ret
  exact hR.out _ _ ⟨_, rfl, by rw [HN'.out]; exact hS3, (hK1.trans hK2).trans hK3, Or.inr ⟨_, _, rfl⟩, by rw [HN'.out]; exact val_Write hv'.out⟩

set_option maxHeartbeats 2000000 in
set_option maxRecDepth 100000 in
theorem step_wRead {w : World} {b i : Nat} {l : List Int} (h : Scan w b 57 l i 0) (hl : ∀ r ∈ l, 0 ≤ r ∧ r ≤ 2147483647) (hE : Env w) (h7 : 7 ≤ b) (hd : enc (cut l i (skipF (inR 97 122) l i)) = wRead) :
    Calls Tryd.prog 27 #[.pointer (some ⟨b, 0, none⟩)] w (StepPost 57 b l (stepF l i) w) := by
  refine post_hid ?_; intro R hR
  have hbw := h.lt
  obtain ⟨_, c1, c2, f1, f2⟩ := h.cells
  have HN := Lib.hid (stepF_eq l i)
  have Hd := Lib.hid hd; clear hd
  generalize hN : stepF l i = N at *
  clear hN
  go_enter Tryd.func27, Tryd.ntmps27
  go_wp2_with fail
  refine (run_any 97 122 (by omega) h hl).mono ?_; rintro e w1 ⟨rfl, hS1, hK1⟩
  generalize skipF (inR 97 122) l i = k at *
  generalize enc (cut l i k) = d at *
  have hE1 : Env w1 := hE.keeps hK1 (fun k hk e => by omega)
  obtain ⟨_, c1, c2, f1, f2⟩ := hS1.cells
  obtain rfl := Hd.out
  have HN' : Hid (N = step_Read l k) := Lib.hid (by rw [HN.out]; rfl)
  clear HN
  unfold wRead at *
  go_wp2_with fail
  refine (number_gen 1073741824 (by decide) hS1 hl hE1 h7).mono ?_
  rintro e w2 ⟨n, rfl, hS2, hK2, hn, hv⟩
  have hv' := Lib.hid hv; clear hv
  go_wp2
  try go_ret
  exact hR.out _ _ ⟨_, rfl, by rw [HN'.out]; exact hS2, hK1.trans hK2, Or.inr ⟨_, _, rfl⟩, by rw [HN'.out]; exact val_Read hv'.out⟩

set_option maxHeartbeats 2000000 in
set_option maxRecDepth 100000 in
theorem step_wTrim {w : World} {b i : Nat} {l : List Int} (h : Scan w b 57 l i 0) (hl : ∀ r ∈ l, 0 ≤ r ∧ r ≤ 2147483647) (hE : Env w) (h7 : 7 ≤ b) (hd : enc (cut l i (skipF (inR 97 122) l i)) = wTrim) :
    Calls Tryd.prog 27 #[.pointer (some ⟨b, 0, none⟩)] w (StepPost 57 b l (stepF l i) w) := by
  refine post_hid ?_; intro R hR
  have hbw := h.lt
  obtain ⟨_, c1, c2, f1, f2⟩ := h.cells
  have HN := Lib.hid (stepF_eq l i)
  have Hd := Lib.hid hd; clear hd
  generalize hN : stepF l i = N at *
  clear hN
  go_enter Tryd.func27, Tryd.ntmps27
  go_wp2_with fail
  refine (run_any 97 122 (by omega) h hl).mono ?_; rintro e w1 ⟨rfl, hS1, hK1⟩
  generalize skipF (inR 97 122) l i = k at *
  generalize enc (cut l i k) = d at *
  have hE1 : Env w1 := hE.keeps hK1 (fun k hk e => by omega)
  obtain ⟨_, c1, c2, f1, f2⟩ := hS1.cells
  obtain rfl := Hd.out
  have HN' : Hid (N = step_Trim l k) := Lib.hid (by rw [HN.out]; rfl)
  clear HN
  unfold wTrim at *
  go_wp2_with fail
  refine (number_gen 1073741824 (by decide) hS1 hl hE1 h7).mono ?_
  rintro e w2 ⟨n, rfl, hS2, hK2, hn, hv⟩
  have hv' := Lib.hid hv; clear hv
  go_wp2
  try go_ret
  exact hR.out _ _ ⟨_, rfl, by rw [HN'.out]; exact hS2, hK1.trans hK2, Or.inr ⟨_, _, rfl⟩, by rw [HN'.out]; exact val_Trim hv'.out⟩

set_option maxHeartbeats 2000000 in
set_option maxRecDepth 100000 in
theorem step_wFlush {w : World} {b i : Nat} {l : List Int} (h : Scan w b 57 l i 0) (hl : ∀ r ∈ l, 0 ≤ r ∧ r ≤ 2147483647) (hE : Env w) (h7 : 7 ≤ b) (hd : enc (cut l i (skipF (inR 97 122) l i)) = wFlush) :
    Calls Tryd.prog 27 #[.pointer (some ⟨b, 0, none⟩)] w (StepPost 57 b l (stepF l i) w) := by
  refine post_hid ?_; intro R hR
  have hbw := h.lt
  obtain ⟨_, c1, c2, f1, f2⟩ := h.cells
  have HN := Lib.hid (stepF_eq l i)
  have Hd := Lib.hid hd; clear hd
  generalize hN : stepF l i = N at *
  clear hN
  go_enter Tryd.func27, Tryd.ntmps27
  go_wp2_with fail
  refine (run_any 97 122 (by omega) h hl).mono ?_; rintro e w1 ⟨rfl, hS1, hK1⟩
  generalize skipF (inR 97 122) l i = k at *
  generalize enc (cut l i k) = d at *
  have hE1 : Env w1 := hE.keeps hK1 (fun k hk e => by omega)
  obtain ⟨_, c1, c2, f1, f2⟩ := hS1.cells
  obtain rfl := Hd.out
  have HN' : Hid (N = step_Flush l k) := Lib.hid (by rw [HN.out]; rfl)
  clear HN
  unfold wFlush at *
  go_wp2
  try go_ret
  exact hR.out _ _ ⟨_, rfl, by rw [HN'.out]; exact hS1, hK1, Or.inr ⟨_, _, rfl⟩, by rw [HN'.out]; intro _; rfl⟩

set_option maxHeartbeats 2000000 in
set_option maxRecDepth 100000 in
theorem step_wCkpt {w : World} {b i : Nat} {l : List Int} (h : Scan w b 57 l i 0) (hl : ∀ r ∈ l, 0 ≤ r ∧ r ≤ 2147483647) (hE : Env w) (h7 : 7 ≤ b) (hd : enc (cut l i (skipF (inR 97 122) l i)) = wCkpt) :
    Calls Tryd.prog 27 #[.pointer (some ⟨b, 0, none⟩)] w (StepPost 57 b l (stepF l i) w) := by
  refine post_hid ?_; intro R hR
  have hbw := h.lt
  obtain ⟨_, c1, c2, f1, f2⟩ := h.cells
  have HN := Lib.hid (stepF_eq l i)
  have Hd := Lib.hid hd; clear hd
  generalize hN : stepF l i = N at *
  clear hN
  go_enter Tryd.func27, Tryd.ntmps27
  go_wp2_with fail
  refine (run_any 97 122 (by omega) h hl).mono ?_; rintro e w1 ⟨rfl, hS1, hK1⟩
  generalize skipF (inR 97 122) l i = k at *
  generalize enc (cut l i k) = d at *
  have hE1 : Env w1 := hE.keeps hK1 (fun k hk e => by omega)
  obtain ⟨_, c1, c2, f1, f2⟩ := hS1.cells
  obtain rfl := Hd.out
  have HN' : Hid (N = step_Ckpt l k) := Lib.hid (by rw [HN.out]; rfl)
  clear HN
  unfold wCkpt at *
  go_wp2
  try go_ret
  exact hR.out _ _ ⟨_, rfl, by rw [HN'.out]; exact hS1, hK1, Or.inr ⟨_, _, rfl⟩, by rw [HN'.out]; intro _; rfl⟩

set_option maxHeartbeats 2000000 in
set_option maxRecDepth 100000 in
theorem step_wRebuild {w : World} {b i : Nat} {l : List Int} (h : Scan w b 57 l i 0) (hl : ∀ r ∈ l, 0 ≤ r ∧ r ≤ 2147483647) (hE : Env w) (h7 : 7 ≤ b) (hd : enc (cut l i (skipF (inR 97 122) l i)) = wRebuild) :
    Calls Tryd.prog 27 #[.pointer (some ⟨b, 0, none⟩)] w (StepPost 57 b l (stepF l i) w) := by
  refine post_hid ?_; intro R hR
  have hbw := h.lt
  obtain ⟨_, c1, c2, f1, f2⟩ := h.cells
  have HN := Lib.hid (stepF_eq l i)
  have Hd := Lib.hid hd; clear hd
  generalize hN : stepF l i = N at *
  clear hN
  go_enter Tryd.func27, Tryd.ntmps27
  go_wp2_with fail
  refine (run_any 97 122 (by omega) h hl).mono ?_; rintro e w1 ⟨rfl, hS1, hK1⟩
  generalize skipF (inR 97 122) l i = k at *
  generalize enc (cut l i k) = d at *
  have hE1 : Env w1 := hE.keeps hK1 (fun k hk e => by omega)
  obtain ⟨_, c1, c2, f1, f2⟩ := hS1.cells
  obtain rfl := Hd.out
  have HN' : Hid (N = step_Rebuild l k) := Lib.hid (by rw [HN.out]; rfl)
  clear HN
  unfold wRebuild at *
  go_wp2
  try go_ret
  exact hR.out _ _ ⟨_, rfl, by rw [HN'.out]; exact hS1, hK1, Or.inr ⟨_, _, rfl⟩, by rw [HN'.out]; intro _; rfl⟩

set_option maxHeartbeats 2000000 in
set_option maxRecDepth 100000 in
theorem step_wCheck {w : World} {b i : Nat} {l : List Int} (h : Scan w b 57 l i 0) (hl : ∀ r ∈ l, 0 ≤ r ∧ r ≤ 2147483647) (hE : Env w) (h7 : 7 ≤ b) (hd : enc (cut l i (skipF (inR 97 122) l i)) = wCheck) :
    Calls Tryd.prog 27 #[.pointer (some ⟨b, 0, none⟩)] w (StepPost 57 b l (stepF l i) w) := by
  refine post_hid ?_; intro R hR
  have hbw := h.lt
  obtain ⟨_, c1, c2, f1, f2⟩ := h.cells
  have HN := Lib.hid (stepF_eq l i)
  have Hd := Lib.hid hd; clear hd
  generalize hN : stepF l i = N at *
  clear hN
  go_enter Tryd.func27, Tryd.ntmps27
  go_wp2_with fail
  refine (run_any 97 122 (by omega) h hl).mono ?_; rintro e w1 ⟨rfl, hS1, hK1⟩
  generalize skipF (inR 97 122) l i = k at *
  generalize enc (cut l i k) = d at *
  have hE1 : Env w1 := hE.keeps hK1 (fun k hk e => by omega)
  obtain ⟨_, c1, c2, f1, f2⟩ := hS1.cells
  obtain rfl := Hd.out
  have HN' : Hid (N = step_Check l k) := Lib.hid (by rw [HN.out]; rfl)
  clear HN
  unfold wCheck at *
  go_wp2
  try go_ret
  exact hR.out _ _ ⟨_, rfl, by rw [HN'.out]; exact hS1, hK1, Or.inr ⟨_, _, rfl⟩, by rw [HN'.out]; intro _; rfl⟩

set_option maxHeartbeats 2000000 in
set_option maxRecDepth 100000 in
theorem step_wGreedy {w : World} {b i : Nat} {l : List Int} (h : Scan w b 57 l i 0) (hl : ∀ r ∈ l, 0 ≤ r ∧ r ≤ 2147483647) (hE : Env w) (h7 : 7 ≤ b) (hd : enc (cut l i (skipF (inR 97 122) l i)) = wGreedy) :
    Calls Tryd.prog 27 #[.pointer (some ⟨b, 0, none⟩)] w (StepPost 57 b l (stepF l i) w) := by
  refine post_hid ?_; intro R hR
  have hbw := h.lt
  obtain ⟨_, c1, c2, f1, f2⟩ := h.cells
  have HN := Lib.hid (stepF_eq l i)
  have Hd := Lib.hid hd; clear hd
  generalize hN : stepF l i = N at *
  clear hN
  go_enter Tryd.func27, Tryd.ntmps27
  go_wp2_with fail
  refine (run_any 97 122 (by omega) h hl).mono ?_; rintro e w1 ⟨rfl, hS1, hK1⟩
  generalize skipF (inR 97 122) l i = k at *
  generalize enc (cut l i k) = d at *
  have hE1 : Env w1 := hE.keeps hK1 (fun k hk e => by omega)
  obtain ⟨_, c1, c2, f1, f2⟩ := hS1.cells
  obtain rfl := Hd.out
  have HN' : Hid (N = step_Greedy l k) := Lib.hid (by rw [HN.out]; rfl)
  clear HN
  unfold wGreedy at *
  go_wp2_with fail
  refine (number_gen 1073741824 (by decide) hS1 hl hE1 h7).mono ?_
  rintro e w2 ⟨n, rfl, hS2, hK2, hn, hv⟩
  have hv' := Lib.hid hv; clear hv
  go_wp2
  try go_ret
  exact hR.out _ _ ⟨_, rfl, by rw [HN'.out]; exact hS2, hK1.trans hK2, Or.inr ⟨_, _, rfl⟩, by rw [HN'.out]; exact val_Greedy hv'.out⟩

set_option maxHeartbeats 2000000 in
set_option maxRecDepth 100000 in
theorem step_wWorth {w : World} {b i : Nat} {l : List Int} (h : Scan w b 57 l i 0) (hl : ∀ r ∈ l, 0 ≤ r ∧ r ≤ 2147483647) (hE : Env w) (h7 : 7 ≤ b) (hd : enc (cut l i (skipF (inR 97 122) l i)) = wWorth) :
    Calls Tryd.prog 27 #[.pointer (some ⟨b, 0, none⟩)] w (StepPost 57 b l (stepF l i) w) := by
  refine post_hid ?_; intro R hR
  have hbw := h.lt
  obtain ⟨_, c1, c2, f1, f2⟩ := h.cells
  have HN := Lib.hid (stepF_eq l i)
  have Hd := Lib.hid hd; clear hd
  generalize hN : stepF l i = N at *
  clear hN
  go_enter Tryd.func27, Tryd.ntmps27
  go_wp2_with fail
  refine (run_any 97 122 (by omega) h hl).mono ?_; rintro e w1 ⟨rfl, hS1, hK1⟩
  generalize skipF (inR 97 122) l i = k at *
  generalize enc (cut l i k) = d at *
  have hE1 : Env w1 := hE.keeps hK1 (fun k hk e => by omega)
  obtain ⟨_, c1, c2, f1, f2⟩ := hS1.cells
  obtain rfl := Hd.out
  have HN' : Hid (N = step_Worth l k) := Lib.hid (by rw [HN.out]; rfl)
  clear HN
  unfold wWorth at *
  go_wp2_with fail
  refine (number_gen 1073741824 (by decide) hS1 hl hE1 h7).mono ?_
  rintro e w2 ⟨n, rfl, hS2, hK2, hn, hv⟩
  have hv' := Lib.hid hv; clear hv
  go_wp2
  try go_ret
  exact hR.out _ _ ⟨_, rfl, by rw [HN'.out]; exact hS2, hK1.trans hK2, Or.inr ⟨_, _, rfl⟩, by rw [HN'.out]; exact val_Worth hv'.out⟩

set_option maxHeartbeats 2000000 in
set_option maxRecDepth 100000 in
theorem step_wFail {w : World} {b i : Nat} {l : List Int} (h : Scan w b 57 l i 0) (hl : ∀ r ∈ l, 0 ≤ r ∧ r ≤ 2147483647) (hE : Env w) (h7 : 7 ≤ b) (hd : enc (cut l i (skipF (inR 97 122) l i)) = wFail) :
    Calls Tryd.prog 27 #[.pointer (some ⟨b, 0, none⟩)] w (StepPost 57 b l (stepF l i) w) := by
  refine post_hid ?_; intro R hR
  have hbw := h.lt
  obtain ⟨_, c1, c2, f1, f2⟩ := h.cells
  have HN := Lib.hid (stepF_eq l i)
  have Hd := Lib.hid hd; clear hd
  generalize hN : stepF l i = N at *
  clear hN
  go_enter Tryd.func27, Tryd.ntmps27
  go_wp2_with fail
  refine (run_any 97 122 (by omega) h hl).mono ?_; rintro e w1 ⟨rfl, hS1, hK1⟩
  generalize skipF (inR 97 122) l i = k at *
  generalize enc (cut l i k) = d at *
  have hE1 : Env w1 := hE.keeps hK1 (fun k hk e => by omega)
  obtain ⟨_, c1, c2, f1, f2⟩ := hS1.cells
  obtain rfl := Hd.out
  have HN' : Hid (N = step_Fail l k) := Lib.hid (by rw [HN.out]; rfl)
  clear HN
  unfold wFail at *
  go_wp2_with fail
  refine (number_gen 1073741824 (by decide) hS1 hl hE1 h7).mono ?_
  rintro e w2 ⟨n, rfl, hS2, hK2, hn, hv⟩
  have hv' := Lib.hid hv; clear hv
  go_wp2
  try go_ret
  exact hR.out _ _ ⟨_, rfl, by rw [HN'.out]; exact hS2, hK1.trans hK2, Or.inr ⟨_, _, rfl⟩, by rw [HN'.out]; exact val_Fail hv'.out⟩

set_option maxHeartbeats 2000000 in
set_option maxRecDepth 100000 in
theorem step_wReplace {w : World} {b i : Nat} {l : List Int} (h : Scan w b 57 l i 0) (hl : ∀ r ∈ l, 0 ≤ r ∧ r ≤ 2147483647) (hE : Env w) (h7 : 7 ≤ b) (hd : enc (cut l i (skipF (inR 97 122) l i)) = wReplace) :
    Calls Tryd.prog 27 #[.pointer (some ⟨b, 0, none⟩)] w (StepPost 57 b l (stepF l i) w) := by
  refine post_hid ?_; intro R hR
  have hbw := h.lt
  obtain ⟨_, c1, c2, f1, f2⟩ := h.cells
  have HN := Lib.hid (stepF_eq l i)
  have Hd := Lib.hid hd; clear hd
  generalize hN : stepF l i = N at *
  clear hN
  go_enter Tryd.func27, Tryd.ntmps27
  go_wp2_with fail
  refine (run_any 97 122 (by omega) h hl).mono ?_; rintro e w1 ⟨rfl, hS1, hK1⟩
  generalize skipF (inR 97 122) l i = k at *
  generalize enc (cut l i k) = d at *
  have hE1 : Env w1 := hE.keeps hK1 (fun k hk e => by omega)
  obtain ⟨_, c1, c2, f1, f2⟩ := hS1.cells
  obtain rfl := Hd.out
  have HN' : Hid (N = step_Replace l k) := Lib.hid (by rw [HN.out]; rfl)
  clear HN
  unfold wReplace at *
  go_wp2_with fail
  refine (number_gen 1073741824 (by decide) hS1 hl hE1 h7).mono ?_
  rintro e w2 ⟨n, rfl, hS2, hK2, hn, hv⟩
  have hv' := Lib.hid hv; clear hv
  go_wp2
  try go_ret
  exact hR.out _ _ ⟨_, rfl, by rw [HN'.out]; exact hS2, hK1.trans hK2, Or.inr ⟨_, _, rfl⟩, by rw [HN'.out]; exact val_Replace hv'.out⟩

set_option maxHeartbeats 2000000 in
set_option maxRecDepth 100000 in
theorem step_wFailat {w : World} {b i : Nat} {l : List Int} (h : Scan w b 57 l i 0) (hl : ∀ r ∈ l, 0 ≤ r ∧ r ≤ 2147483647) (hE : Env w) (h7 : 7 ≤ b) (hd : enc (cut l i (skipF (inR 97 122) l i)) = wFailat) :
    Calls Tryd.prog 27 #[.pointer (some ⟨b, 0, none⟩)] w (StepPost 57 b l (stepF l i) w) := by
  refine post_hid ?_; intro R hR
  have hbw := h.lt
  obtain ⟨_, c1, c2, f1, f2⟩ := h.cells
  have HN := Lib.hid (stepF_eq l i)
  have Hd := Lib.hid hd; clear hd
  generalize hN : stepF l i = N at *
  clear hN
  go_enter Tryd.func27, Tryd.ntmps27
  go_wp2_with fail
  refine (run_any 97 122 (by omega) h hl).mono ?_; rintro e w1 ⟨rfl, hS1, hK1⟩
  generalize skipF (inR 97 122) l i = k at *
  generalize enc (cut l i k) = d at *
  have hE1 : Env w1 := hE.keeps hK1 (fun k hk e => by omega)
  obtain ⟨_, c1, c2, f1, f2⟩ := hS1.cells
  obtain rfl := Hd.out
  have HN' : Hid (N = step_Failat l k) := Lib.hid (by rw [HN.out]; rfl)
  clear HN
  unfold wFailat at *
  go_wp2_with fail
  refine (number_gen 1073741824 (by decide) hS1 hl hE1 h7).mono ?_
  rintro e w2 ⟨n, rfl, hS2, hK2, hn, hv⟩
  have hv' := Lib.hid hv; clear hv
  have hE2 : Env w2 := hE1.keeps hK2 (fun k hk e => by omega)
  go_wp2_with fail
  refine (number_gen 1073741824 (by decide) hS2 hl hE2 h7).mono ?_
  rintro e w3 ⟨m, rfl, hS3, hK3, hm, hv2⟩
  have hv2' := Lib.hid hv2; clear hv2
  go_wp2
  try go_ret
  exact hR.out _ _ ⟨_, rfl, by rw [HN'.out]; exact hS3, (hK1.trans hK2).trans hK3, Or.inr ⟨_, _, rfl⟩, by rw [HN'.out]; exact val_Failat hv'.out hv2'.out⟩

set_option maxHeartbeats 2000000 in
set_option maxRecDepth 100000 in
theorem step_wCrash {w : World} {b i : Nat} {l : List Int} (h : Scan w b 57 l i 0) (hl : ∀ r ∈ l, 0 ≤ r ∧ r ≤ 2147483647) (hE : Env w) (h7 : 7 ≤ b) (hd : enc (cut l i (skipF (inR 97 122) l i)) = wCrash) :
    Calls Tryd.prog 27 #[.pointer (some ⟨b, 0, none⟩)] w (StepPost 57 b l (stepF l i) w) := by
  refine post_hid ?_; intro R hR
  have hbw := h.lt
  obtain ⟨_, c1, c2, f1, f2⟩ := h.cells
  have HN := Lib.hid (stepF_eq l i)
  have Hd := Lib.hid hd; clear hd
  generalize hN : stepF l i = N at *
  clear hN
  go_enter Tryd.func27, Tryd.ntmps27
  go_wp2_with fail
  refine (run_any 97 122 (by omega) h hl).mono ?_; rintro e w1 ⟨rfl, hS1, hK1⟩
  generalize skipF (inR 97 122) l i = k at *
  generalize enc (cut l i k) = d at *
  have hE1 : Env w1 := hE.keeps hK1 (fun k hk e => by omega)
  obtain ⟨_, c1, c2, f1, f2⟩ := hS1.cells
  obtain rfl := Hd.out
  have HN' : Hid (N = step_Crash l k) := Lib.hid (by rw [HN.out]; rfl)
  clear HN
  unfold wCrash at *
  go_wp2_with fail
  refine (number_gen 1073741824 (by decide) hS1 hl hE1 h7).mono ?_
  rintro e w2 ⟨n, rfl, hS2, hK2, hn, hv⟩
  have hv' := Lib.hid hv; clear hv
  have hE2 : Env w2 := hE1.keeps hK2 (fun k hk e => by omega)
  go_wp2_with fail
  refine (number_gen 18446744073709551615 (by decide) hS2 hl hE2 h7).mono ?_
  rintro e w3 ⟨m, rfl, hS3, hK3, hm, hv2⟩
  have hv2' := Lib.hid hv2; clear hv2
  go_wp2
  try go_ret
  exact hR.out _ _ ⟨_, rfl, by rw [HN'.out]; exact hS3, (hK1.trans hK2).trans hK3, Or.inr ⟨_, _, rfl⟩, by rw [HN'.out]; exact val_Crash hv'.out hv2'.out⟩

set_option maxHeartbeats 2000000 in
set_option maxRecDepth 100000 in
theorem step_none {w : World} {b i : Nat} {l : List Int} (h : Scan w b 57 l i 0) (hl : ∀ r ∈ l, 0 ≤ r ∧ r ≤ 2147483647) (hE : Env w) (h7 : 7 ≤ b) (hd : enc (cut l i (skipF (inR 97 122) l i)) ≠ wWrite ∧ enc (cut l i (skipF (inR 97 122) l i)) ≠ wRead ∧ enc (cut l i (skipF (inR 97 122) l i)) ≠ wTrim ∧ enc (cut l i (skipF (inR 97 122) l i)) ≠ wFlush ∧ enc (cut l i (skipF (inR 97 122) l i)) ≠ wCkpt ∧ enc (cut l i (skipF (inR 97 122) l i)) ≠ wRebuild ∧ enc (cut l i (skipF (inR 97 122) l i)) ≠ wCheck ∧ enc (cut l i (skipF (inR 97 122) l i)) ≠ wGreedy ∧ enc (cut l i (skipF (inR 97 122) l i)) ≠ wWorth ∧ enc (cut l i (skipF (inR 97 122) l i)) ≠ wFail ∧ enc (cut l i (skipF (inR 97 122) l i)) ≠ wReplace ∧ enc (cut l i (skipF (inR 97 122) l i)) ≠ wFailat ∧ enc (cut l i (skipF (inR 97 122) l i)) ≠ wCrash) :
    Calls Tryd.prog 27 #[.pointer (some ⟨b, 0, none⟩)] w (StepPost 57 b l (stepF l i) w) := by
  refine post_hid ?_; intro R hR
  have hbw := h.lt
  obtain ⟨_, c1, c2, f1, f2⟩ := h.cells
  have HN := Lib.hid (stepF_eq l i)
  have Hd := Lib.hid hd; clear hd
  generalize hN : stepF l i = N at *
  clear hN
  go_enter Tryd.func27, Tryd.ntmps27
  go_wp2_with fail
  refine (run_any 97 122 (by omega) h hl).mono ?_; rintro e w1 ⟨rfl, hS1, hK1⟩
  generalize skipF (inR 97 122) l i = k at *
  generalize enc (cut l i k) = d at *
  have hE1 : Env w1 := hE.keeps hK1 (fun k hk e => by omega)
  obtain ⟨_, c1, c2, f1, f2⟩ := hS1.cells
  have HN' : Hid (N = (11, i, .none)) := Lib.hid (by rw [HN.out]; obtain ⟨d0, d1, d2, d3, d4, d5, d6, d7, d8, d9, d10, d11, d12⟩ := Hd.out; unfold stepG; simp only [d0, d1, d2, d3, d4, d5, d6, d7, d8, d9, d10, d11, d12, false_or, if_false])
  clear HN
  obtain ⟨d0, d1, d2, d3, d4, d5, d6, d7, d8, d9, d10, d11, d12⟩ := Hd.out
  have e0 : (d == wWrite) = false := by simpa using d0
  have e1 : (d == wRead) = false := by simpa using d1
  have e2 : (d == wTrim) = false := by simpa using d2
  have e3 : (d == wFlush) = false := by simpa using d3
  have e4 : (d == wCkpt) = false := by simpa using d4
  have e5 : (d == wRebuild) = false := by simpa using d5
  have e6 : (d == wCheck) = false := by simpa using d6
  have e7 : (d == wGreedy) = false := by simpa using d7
  have e8 : (d == wWorth) = false := by simpa using d8
  have e9 : (d == wFail) = false := by simpa using d9
  have e10 : (d == wReplace) = false := by simpa using d10
  have e11 : (d == wFailat) = false := by simpa using d11
  have e12 : (d == wCrash) = false := by simpa using d12
  clear Hd d0 d1 d2 d3 d4 d5 d6 d7 d8 d9 d10 d11 d12
  unfold wWrite wRead wTrim wFlush wCkpt wRebuild wCheck wGreedy wWorth wFail wReplace wFailat wCrash at *
  have hSi := hS1.set_i i h.here
  have hKi : Keeps (· = b) w (w1.setCell ⟨b, 1, none⟩ (.int .i64 i)) := hK1.trans (Keeps.setCell _ _ _ (fun _ => rfl))
  go_wp2_with fail
  refine (fail_any 11 hSi).mono ?_; rintro e w4 ⟨rfl, hS4, hK4⟩
  go_wp2
  try go_ret
  exact hR.out _ _ ⟨_, rfl, by rw [HN'.out]; exact hS4, hKi.trans hK4, Or.inl rfl, by rw [HN'.out]; intro h; cases h⟩

theorem step_any {w : World} {b i : Nat} {l : List Int} (h : Scan w b 57 l i 0) (hl : ∀ r ∈ l, 0 ≤ r ∧ r ≤ 2147483647) (hE : Env w) (h7 : 7 ≤ b) :
    Calls Tryd.prog 27 #[.pointer (some ⟨b, 0, none⟩)] w (StepPost 57 b l (stepF l i) w) := by
  by_cases d0 : enc (cut l i (skipF (inR 97 122) l i)) = wWrite
  · exact step_wWrite h hl hE h7 d0
  by_cases d1 : enc (cut l i (skipF (inR 97 122) l i)) = wRead
  · exact step_wRead h hl hE h7 d1
  by_cases d2 : enc (cut l i (skipF (inR 97 122) l i)) = wTrim
  · exact step_wTrim h hl hE h7 d2
  by_cases d3 : enc (cut l i (skipF (inR 97 122) l i)) = wFlush
  · exact step_wFlush h hl hE h7 d3
  by_cases d4 : enc (cut l i (skipF (inR 97 122) l i)) = wCkpt
  · exact step_wCkpt h hl hE h7 d4
  by_cases d5 : enc (cut l i (skipF (inR 97 122) l i)) = wRebuild
  · exact step_wRebuild h hl hE h7 d5
  by_cases d6 : enc (cut l i (skipF (inR 97 122) l i)) = wCheck
  · exact step_wCheck h hl hE h7 d6
  by_cases d7 : enc (cut l i (skipF (inR 97 122) l i)) = wGreedy
  · exact step_wGreedy h hl hE h7 d7
  by_cases d8 : enc (cut l i (skipF (inR 97 122) l i)) = wWorth
  · exact step_wWorth h hl hE h7 d8
  by_cases d9 : enc (cut l i (skipF (inR 97 122) l i)) = wFail
  · exact step_wFail h hl hE h7 d9
  by_cases d10 : enc (cut l i (skipF (inR 97 122) l i)) = wReplace
  · exact step_wReplace h hl hE h7 d10
  by_cases d11 : enc (cut l i (skipF (inR 97 122) l i)) = wFailat
  · exact step_wFailat h hl hE h7 d11
  by_cases d12 : enc (cut l i (skipF (inR 97 122) l i)) = wCrash
  · exact step_wCrash h hl hE h7 d12
  exact step_none h hl hE h7 ⟨d0, d1, d2, d3, d4, d5, d6, d7, d8, d9, d10, d11, d12⟩
end Go.Proofs.YtpjocnembjocgaaDoor
