/- What Steps does of a slice of acts. -/
import Derived.Test.YtpjocnembjocgaaDoorAct
import Derived.Test.YtpjocnembjocgaaDoorSame
namespace Go.Proofs.YtpjocnembjocgaaDoor
open Go.RowKit Go.Mi

/-- An act. -/
structure Ac where
  d : Nat
  a : Nat
  b : Nat
  k : Nat
  t : List UInt8
def Ac.ok (x : Ac) : Prop := x.d < 256 ∧ x.a < 65536 ∧ x.b < 65536 ∧ x.k < 18446744073709551616
def Ac.st (x : Ac) : St := actF x.d x.a x.b x.k x.t
def Ac.val (x : Ac) : Value := actVal x.d x.a x.b x.k x.t

/-- A slice of acts, as the walk asks of it. -/
def Acts (w : World) (v : Value) (l : List Ac) : Prop :=
  (v = .slice none 0 0 ∧ l = []) ∨ ∃ (g : Addr) (cap : Nat), v = .slice (some g) l.length cap ∧ (0 < l.length → g.block < w.heap.size) ∧ ∀ i (hi : i < l.length),
    w.cell? (g.add (i * 5)) = some (.int .u8 l[i].d) ∧ w.cell? ((g.add (i * 5)).add 1) = some (.int .u16 l[i].a) ∧ w.cell? ((g.add (i * 5)).add 2) = some (.int .u16 l[i].b) ∧
    w.cell? ((g.add (i * 5)).add 3) = some (.int .u64 l[i].k) ∧ w.cell? ((g.add (i * 5)).add 4) = some (.string ⟨l[i].t.toArray⟩)

theorem add_block (g : Addr) (i : Nat) : (g.add i).block = g.block := by unfold Addr.add; split <;> rfl
theorem Acts.below {w w' : World} {B : Nat} {v : Value} {l : List Ac} (h : Acts w v l) (hb : Below B w w') (hB : w.heap.size ≤ B) : Acts w' v l := by
  rcases h with h | ⟨g, cap, hv, hg, hc⟩
  · exact .inl h
  · refine .inr ⟨g, cap, hv, fun h0 => Nat.lt_of_lt_of_le (hg h0) hb.size, fun i hi => ?_⟩
    have hg := hg (by omega)
    have hx : ∀ a : Addr, a.block = g.block → w'.cell? a = w.cell? a := fun a ha => hb.cell (by rw [ha]; omega)
    obtain ⟨h0, h1, h2, h3, h4⟩ := hc i hi
    rw [hx _ (add_block g _), hx _ (by rw [add_block, add_block]), hx _ (by rw [add_block, add_block]), hx _ (by rw [add_block, add_block]), hx _ (by rw [add_block, add_block])]
    exact ⟨h0, h1, h2, h3, h4⟩

theorem st_ne (x : Ac) : x.st ≠ .none := by
  unfold Ac.st actF
  (repeat' split) <;> (intro h; cases h)

set_option maxHeartbeats 4000000 in
set_option maxRecDepth 100000 in
theorem steps_any (l : List Ac) (hok : ∀ x ∈ l, x.ok) (hn : l.length ≤ 1000000) (w : World) (v : Value) (h : Acts w v l) :
    Calls Tryd.prog 14 #[v] w fun e w' => ∃ r, e = .returned r ∧ w'.ownsRow w.heap.size 35 1 r l.length (l.map fun x => x.st.val) ∧ Below w.heap.size w w' := by
  refine post_hid ?_; intro R hR
  obtain ⟨k0, hk0, kz0, kz1, kz2⟩ := info_parts info35
  rcases h with ⟨rfl, rfl⟩ | ⟨g, cap, rfl, hg, hc⟩
  · go_enter Tryd.func14, Tryd.ntmps14
    go_wp2
    go_loopg [3, 8] 0 (fun k v3 v wr => v3 = .slice none 0 0 ∧ v = .int .i64 0 ∧ wr = w)
    case atStart => exact ⟨rfl, rfl, rfl⟩
    case round =>
      obtain ⟨rfl, rfl, rfl⟩ := hrel
      go_wp2
      try go_ret
      exact hR.out _ _ ⟨_, rfl, World.ownsRow_nil _ _ _ _, Below.refl _ _⟩
  · go_enter Tryd.func14, Tryd.ntmps14
    go_wp2
    go_loopg [3, 8] l.length (fun k v3 v8 wr => ∃ i, k = l.length - i ∧ v8 = .int .i64 i ∧ i ≤ l.length ∧ wr.ownsRow w.heap.size 35 1 v3 i ((l.take i).map fun x => x.st.val) ∧ Below w.heap.size w wr)
    case atStart => exact ⟨0, rfl, rfl, Nat.zero_le _, World.ownsRow_nil _ _ _ _, Below.refl _ _⟩
    case round =>
      obtain ⟨i, hk, rfl, hi, hown, hbw⟩ := hrel
      have HK := Lib.hid hk; clear hk
      by_cases hlt : i < l.length
      · have hx := hc i hlt
        have hxo := hok l[i] (List.getElem_mem hlt)
        have hcl : ∀ a : Addr, a.block = g.block → wr.cell? a = w.cell? a := fun a ha => hbw.cell (by rw [ha]; exact hg (by omega))
        rw [← hcl _ (add_block g _), ← hcl _ (by rw [add_block, add_block]), ← hcl _ (by rw [add_block, add_block]), ← hcl _ (by rw [add_block, add_block]), ← hcl _ (by rw [add_block, add_block])] at hx
        have hx2 : wr.cell? (g.add (i * 5)) = some (.int .u8 l[i].d) ∧ wr.cell? ⟨(g.add (i * 5)).block, (g.add (i * 5)).off + 1, none⟩ = some (.int .u16 l[i].a) ∧ wr.cell? ⟨(g.add (i * 5)).block, (g.add (i * 5)).off + 2, none⟩ = some (.int .u16 l[i].b) ∧
            wr.cell? ⟨(g.add (i * 5)).block, (g.add (i * 5)).off + 3, none⟩ = some (.int .u64 l[i].k) ∧ wr.cell? ⟨(g.add (i * 5)).block, (g.add (i * 5)).off + 4, none⟩ = some (.string ⟨l[i].t.toArray⟩) := hx
        obtain ⟨c0, c1, c2, c3, c4⟩ := hx2
        clear hx
        clear hcl
        obtain ⟨ao, cp, rfl⟩ := shape_row' hown
        have hbsz := hbw.size
        go_wp2_with fail
        refine (act_any l[i].d l[i].a l[i].b l[i].k l[i].t hxo.1 hxo.2.1 hxo.2.2.1 _).mono ?_
        rintro e w4 ⟨rfl, hb4⟩
        have HV := Lib.hid (show actF l[i].d l[i].a l[i].b l[i].k l[i].t = l[i].st from rfl)
        have hbw4 : Below w.heap.size w w4 := (hbw.alloc hbsz _).trans (hb4.mono (by simp; omega))
        have hsz4 : wr.heap.size < w4.heap.size := by have := hb4.size; simp at this; omega
        have hown4 := (Keeps.of_below (B := wr.heap.size + 1) (M := fun k => wr.heap.size + 1 ≤ k) (hb4.mono (by simp)) (fun _ _ h => h)).owns (hown.alloc _) (fun k hk e => by have := (hown.lt k hk).2; omega)
        obtain ⟨ty, x, f, wd, hv, _⟩ := word_gen l[i].st (st_ne l[i])
        rw [HV.out, hv]
        go_wp2_with (at_builtin; refine wpList_append_own _ rfl _ _ 24 rfl w.heap.size 35 k0 .nilIface 1 16 Tryd.underlying24 hk0 kz0 kz1 kz2 rfl (by decide) _ _ _ rfl (hown4.alloc _) ⟨w4.heap.size, 0, none⟩ 1 1 [_] rfl rfl (cell_one_new _ _ _) (fun u hu => by rw [List.mem_singleton.1 hu]; rfl) (by unfold maxLen; omega) (by omega) (by simp; omega) ?_)
        intro v' w5 hown5 hgrow _
        go_wp2
        go_roundg (l.length - (i + 1))
        case measure => rw [HK.out]; omega
        case rel =>
          refine ⟨i + 1, rfl, by go_num, by omega, ?_, (hbw4.alloc (by omega) _).grown hgrow (by simp; omega) (fun k hk => (hown4.lt k hk).1)⟩
          rw [List.take_succ_eq_append_getElem hlt, List.map_append, List.map_cons, List.map_nil, hv, List.map_take]
          exact hown5
      · have hie : ¬ ((i : Int) < (l.length : Int)) := by omega
        go_wp2
        try go_ret
        refine hR.out _ _ ⟨_, rfl, ?_, hbw⟩
        have : i = l.length := by omega
        subst this
        rw [List.take_length] at hown
        exact hown
end Go.Proofs.YtpjocnembjocgaaDoor
