/- Copies: bureauref02.Copy, bureaulaw31.copied. -/
import Derived.Test.YtkkildkleleppaaDoorRow
import Derived.Test.YtkkildkleleppaaDoorVal
import Derived.Deep.RegionHeld3
namespace Go.Proofs.YtkkildkleleppaaDoor
open Go.RowKit

theorem infoV : (Tryd.prog.info? 47).map (fun i => (i.zero, i.size, i.bytes)) = some (some (.agg #[.int .i64 0, .int .i64 0, .string ⟨#[]⟩]), 3, 32) := by kernel_rfl
theorem infoT : (Tryd.prog.info? 34).map (fun i => (i.zero, i.size, i.bytes)) = some (some (.agg #[.string ⟨#[]⟩, .slice none 0 0]), 2, 40) := by kernel_rfl

/-- A row of values of the call's own is returned. -/
def CopyEnd (w : World) (vs : List V) (e : Ending) (w' : World) : Prop := ∃ v, e = .returned v ∧ w'.ownsRow w.heap.size 47 3 v vs.length (vcells vs) ∧ Below w.heap.size w w'

theorem Copy_any (a : Option Addr) (n c : Nat) (vs : List V) (hn : n = vs.length) (hl : n ≤ 16777216) (w : World) (h : IsVs w a vs) :
    Calls Tryd.prog 15 #[.slice a n c] w (CopyEnd w vs) := by
  subst hn
  have hr := Lib.hid h.reads
  go_enter Tryd.func15, Tryd.ntmps15
  go_wp2_with (at_builtin; (refine wpList_append_any w rfl (.tmp 4) (.tmp 5) _ rfl w.heap.size _ _ 3 32 Tryd.underlying32 infoV rfl (by decide) (by decide) (.slice none 0 0) 0 [] rfl (World.ownsRow_nil _ _ _ _) a vs.length c (vcells vs) rfl hr.out (vcells_one _) (by omega) (Nat.le_refl _) ?_); intro v1 w1 hown1 hg1)
  go_ret
  rw [Nat.zero_add, List.nil_append] at hown1
  exact ⟨v1, rfl, hown1, own_next (World.ownsRow_nil _ _ 47 3) (Below.refl _ _) hg1 (Nat.le_refl _)⟩

theorem own_mono {e : TypeId} {w : World} {B B' size n : Nat} {v : Value} {xs : List Value} (hB : B' ≤ B) (h : w.ownsRow B e size v n xs) : w.ownsRow B' e size v n xs := by
  refine ⟨h.1, ?_⟩
  rcases h.2 with hn | ⟨g, cap, cur, hv, hbg, rest⟩
  · exact .inl hn
  · exact .inr ⟨g, cap, cur, hv, Nat.le_trans hB hbg, rest⟩
theorem below_alloc (w : World) (o : Obj) : Below w.heap.size w (w.alloc o) := (Below.refl _ w).alloc (Nat.le_refl _) o

theorem below_drew {B : Nat} {w w' : World} (h : Below B w w') : Below B w w'.drew := h.trans ⟨rfl, rfl, rfl, Nat.le_refl _, fun _ _ => rfl⟩
theorem own_drew {e : TypeId} {w : World} {B size n : Nat} {v : Value} {xs : List Value} (h : w.ownsRow B e size v n xs) : w.drew.ownsRow B e size v n xs := own_kept h (below_drew (Below.refl _ _))
theorem TRow.drew_ {w : World} {B : Nat} {e : TypeId} {xs : List Value} {ts : List T} (h : TRow w B e xs ts) : TRow w.drew B e xs ts := h.below (below_drew (Below.refl _ _))

def CopiedEnd (w : World) (ts : List T) (e : Ending) (w' : World) : Prop := ∃ v xs, e = .returned v ∧ w'.ownsRow w.heap.size 34 2 v ts.length xs ∧ TRow w' w.heap.size 47 xs ts ∧ Below w.heap.size w w'

set_option maxRecDepth 100000 in
set_option maxHeartbeats 2000000 in
theorem copied_any (a : Option Addr) (n c : Nat) (ts : List T) (hn : n = ts.length) (hl : n ≤ 16777216) (hps : ∀ t ∈ ts, t.ps.length ≤ 16777216) (w : World) (h : IsTs w a ts) :
    Calls Tryd.prog 6 #[.slice a n c] w (CopiedEnd w ts) := by
  have HN := Lib.hid hn
  have HP := Lib.hid hps
  clear hn hps
  go_enter Tryd.func6, Tryd.ntmps6
  go_wp2
  go_loopw [3, 4] (fun out i wr => ∃ (k : Nat) (xs : List Value), k ≤ n ∧ i = .int .i64 k ∧ wr.ownsRow w.heap.size 34 2 out k xs ∧ TRow wr w.heap.size 47 xs (ts.take k) ∧ Below w.heap.size w wr) (fun _ i _ => n - (intOf i).toNat)
  case atStart => exact ⟨0, [], by omega, rfl, World.ownsRow_nil _ _ _ _, TRow.nil_ _ _ _, Below.refl _ _⟩
  case round =>
    obtain ⟨k, xs, hk, rfl, hown, htr, hb⟩ := hrel
    by_cases hlt : k < n
    · have hkv : k < ts.length := by have := HN.out; omega
      obtain ⟨b, o, rfl, t0, pa, pc, t1, hpc, hvs⟩ := h.at_ hkv
      have q0 := (hb.cell (lt_of_cell t0)).trans t0
      have q1 := (hb.cell (lt_of_cell t1)).trans t1
      have hpl := HP.out ts[k] (List.getElem_mem hkv)
      have HT : Hid (ts.take (k + 1) = ts.take k ++ [ts[k]]) := Lib.hid (List.take_succ_eq_append_getElem hkv)
      generalize ts[k] = t at t0 t1 q0 q1 hpc hvs HT hpl
      obtain ⟨sql, ps⟩ := t
      simp only at t0 t1 q0 q1 hpc hvs hpl
      generalize hm : ps.length = m at t1 q1 hpc hpl
      have HM := Lib.hid hm
      have HV := Lib.hid (hvs.below hb)
      have T0 := Lib.hid t0
      have T1 := Lib.hid t1
      clear hm hvs t0 t1
      have hz := lt_of_cell q0
      simp only at hz
      have hk0 : (0 : Int) ≤ (k : Int) := Int.natCast_nonneg _
      have hk1 : (k : Int) < (n : Int) := by omega
      go_wp2_with fail
      go_region_held3 (fun w' => w'.cell? ⟨b, o + k * 2, none⟩ = some (.string sql) ∧ w'.cell? ⟨b, o + k * 2 + 1, none⟩ = some (.slice pa m pc))
        (first
          | exact ⟨(hbw3.cell (lt_of_cell T0.out)).trans T0.out, (hbw3.cell (lt_of_cell T1.out)).trans T1.out⟩
          | exact ⟨((hbw2.alloc hz2 _).cell (lt_of_cell T0.out)).trans T0.out, ((hbw2.alloc hz2 _).cell (lt_of_cell T1.out)).trans T1.out⟩
          | exact ⟨(hbw2.cell (lt_of_cell T0.out)).trans T0.out, (hbw2.cell (lt_of_cell T1.out)).trans T1.out⟩
          | go_keep)
        (first
          | (go_at_call 15; refine (Copy_any pa m pc ps HM.out.symm hpl _ (by exact HV.out)).mono ?_; rintro e w2 ⟨v2, rfl, hown2, hbc⟩; obtain ⟨pa2, pc2, rfl, hx2⟩ := own_form hown2; clear hx2; have hbw2 : Below w.heap.size w w2 := (below_drew hb).trans (hbc.mono hb.size); have hz2 : w.heap.size ≤ w2.heap.size := hbw2.size)
          | (refine step_append_any (w2.alloc (.cells #[.string sql, .slice pa2 ps.length pc2] 34)) rfl (.tmp 11) (.tmp 24) _ (by rfl) w.heap.size _ _ 2 40 Tryd.underlying22 infoT rfl (by decide) (by decide) _ k xs (by rfl) (World.ownsRow.alloc (own_kept (own_drew hown) hbc) _) _ 1 1 [.string sql, .slice pa2 ps.length pc2] (by rfl) ⟨rfl, fun _ => ⟨_, rfl, cells_new w2 _ _ _ rfl⟩⟩ (by intro u hu; simp only [List.mem_cons, List.not_mem_nil, or_false] at hu; rcases hu with rfl | rfl <;> first | rfl | exact own_slice hown2) (by omega) (by simp; omega) ?_; intro v3 w3 hown3 hg3; have hbw3 : Below w.heap.size w w3 := own_next (World.ownsRow.alloc (own_kept (own_drew hown) hbc) _) (hbw2.alloc hz2 _) hg3 (by simp; omega)))
      go_wp2
      go_roundw
      case rel =>
        refine ⟨k + 1, _, by omega, by simp, hown3, ?_, hbw3⟩
        rw [HT.out]
        have hA := TRow.push (TRow.below htr.drew_ hbc) ⟨sql, ps⟩ _ (own_slice hown2) (own_mono hb.size hown2)
        exact TRow.kept (TRow.below hA (below_alloc _ _)) (World.ownsRow.alloc (own_kept (own_drew hown) hbc) _) (by decide) hg3
      case measure => simp [intOf]; omega
    · have hk2 : k = n := by omega
      subst hk2
      go_wp2
      go_ret
      rw [HN.out, List.take_length] at htr
      exact ⟨_, xs, rfl, by rw [← HN.out]; exact hown, htr, hb⟩
end Go.Proofs.YtkkildkleleppaaDoor
