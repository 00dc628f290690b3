/- The shell's params; what is written behind an event's numbers. The closures that write what stands behind an event's numbers. -/
import Derived.Test.YtkkildkleleppaaGreatDoorJ24
namespace Go.Proofs.YtkkildkleleppaaGreatDoor
open Go.RowKit

theorem join_lits (vs : List V) : Lib.join (vs.map V.lit) [44] = litsT vs := by
  cases vs with
  | nil => rfl
  | cons v r =>
    rw [List.map_cons, Lib.join_cons]
    simp only [litsT, paramsT, Lib.joinTail]
    congr 1
    induction r with
    | nil => rfl
    | cons u r ih => simp only [List.map_cons, List.flatten_cons, List.flatMap_cons, ih]; rfl
theorem own_ss {w : World} {B : Nat} {e : TypeId} {a : Option Addr} {n c : Nat} {l : List (List UInt8)} (h : w.ownsRow B e 1 (.slice a n c) n (scells l)) : IsSs w a (l.map fun x => ⟨x.toArray⟩) := by
  obtain ⟨a', c', he, _, _, hc⟩ := own_form h
  injection he with e1 e2 e3
  subst e1
  rcases hc with h0 | ⟨b, hb, hc⟩
  · have hl := h.1
    have : l = [] := List.eq_nil_of_length_eq_zero (by simp [scells] at hl; omega)
    exact .inl (by rw [this]; rfl)
  · refine .inr ⟨b, 0, hb, fun i v hi => ?_⟩
    rw [List.getElem?_map] at hi
    cases hx : l[i]? with
    | none => rw [hx] at hi; cases hi
    | some x =>
      rw [hx] at hi
      injection hi with hi
      subst hi
      have : (scells l)[i]? = some (.string ⟨x.toArray⟩) := by simp [scells, hx]
      exact hc _ _ (by simpa using this)

theorem JoinL (a : Option Addr) (n c : Nat) (l : List (List UInt8)) (sep : List UInt8) (w : World) (h : IsSs w a (l.map fun x => ⟨x.toArray⟩)) (hn : n = l.length) (hc : n ≤ c) (hN : n ≤ 140737488355328) (hlen : (Lib.join l sep).length ≤ 140737488355328) :
    Calls Tryz.prog 112 #[.slice a n c, .string ⟨sep.toArray⟩] w (Ret w (.string ⟨(Lib.join l sep).toArray⟩)) := by
  have e : (l.map fun x => (⟨x.toArray⟩ : ByteArray)).map (·.data.toList) = l := by
    rw [List.map_map]
    exact List.map_id _
  have h2 := Join_any a n c _ ⟨sep.toArray⟩ w h (by simpa using hn) hc hN (by rw [e, toList_arr]; exact hlen)
  rw [e, toList_arr] at h2
  exact h2
set_option maxRecDepth 100000 in
set_option maxHeartbeats 2000000 in
theorem params_any (a : Option Addr) (n c : Nat) (ps : List V) (hn : n = ps.length) (hl : n ≤ 16777216) (hf : fitVs ps) (w : World) (hE : Env w) (h : IsVs w a ps) :
    Calls Tryz.prog 59 #[.slice a n c] w (Ret w (.string ⟨(32 :: litsT ps).toArray⟩)) := by
  have HN := Lib.hid hn
  have HE := Lib.hid hE
  have HF := Lib.hid hf
  clear hn hE hf
  go_enter Tryz.func59, Tryz.ntmps59
  go_wp2
  go_loopw [3, 5, 6, 7, 10] (fun out _ _ _ i wr => ∃ k : Nat, k ≤ n ∧ i = .int .i64 k ∧ wr.ownsRow w.heap.size 9 1 out k (scells ((ps.take k).map V.lit)) ∧ Below w.heap.size w wr) (fun _ _ _ _ i _ => n - (intOf i).toNat)
  case atStart => exact ⟨0, by omega, rfl, World.ownsRow_nil _ _ _ _, Below.refl _ _⟩
  case round =>
    obtain ⟨k, hk, rfl, hown, hb⟩ := hrel
    by_cases hlt : k < n
    · have hkv : k < ps.length := by have := HN.out; omega
      obtain ⟨b, o, rfl, c0, c1, c2⟩ := (h.below hb).at_ hkv
      have HT : Hid (scells ((ps.take (k + 1)).map V.lit) = scells ((ps.take k).map V.lit) ++ [.string ⟨(ps[k].lit).toArray⟩]) := Lib.hid (by
        rw [List.take_succ_eq_append_getElem hkv, List.map_append, scells_append]; rfl)
      have HFv := Lib.hid (HF.out ps[k] (List.getElem_mem hkv))
      have HE2 := Lib.hid (HE.out.below hb)
      generalize ps[k] = v at c0 c1 c2 HT HFv
      go_wp2_with (first
        | (go_at_call 28; refine (Print_any v HFv.out _ (HE2.out.below (below_alloc _ _))).mono ?_; rintro e w4 ⟨rfl, hb4⟩; have hown4 := own_kept (World.ownsRow.alloc hown (.cells #[.int .i64 v.k, .int .i64 v.n, .string v.s] 80)) hb4; have hbb : Below w.heap.size w w4 := (hb.alloc hb.size _).trans (hb4.mono (by have := hb.size; simp; omega)))
        | (at_builtin; refine wpList_pushR2 w4 9 _ rfl (.tmp 19) (.tmp 21) _ rfl w.heap.size _ 1 16 Tryz.underlying57 infoSr rfl (by decide) (by decide) _ k _ rfl hown4 [.string ⟨v.lit.toArray⟩] rfl (by intro u hu; simp at hu; subst hu; rfl) 1 1 _ rfl rfl rfl (by omega) hbb.size ?_; intro v6 w6 hown6 hg6))
      go_roundw
      case rel => exact ⟨k + 1, by omega, by go_num, by rw [HT.out]; exact hown6, own_next hown4 hbb hg6 hbb.size⟩
      case measure => simp [intOf]; omega
    · have hkn : k = n := by omega
      subst hkn
      obtain ⟨oa, oc, he, hoc, -, -⟩ := own_form hown
      subst he
      have hss := own_ss hown
      have hlen := litsT_len ps HF.out
      have e2 : (ps.take k).map V.lit = ps.map V.lit := by rw [HN.out, List.take_length]
      rw [e2] at hss
      have hlp : (litsT ps).length ≤ 14000000000 := by have := HN.out; omega
      have hJ := JoinL oa k oc (ps.map V.lit) [44] wr hss (by rw [HN.out]; simp) hoc (by omega) (by rw [join_lits]; omega)
      rw [join_lits] at hJ
      have HJ := Lib.hid hJ
      clear hJ e2 hss hlen
      go_wp2_with (go_at_call 112; refine HJ.out.mono ?_; rintro e w4 ⟨rfl, hb4⟩)
      go_ret
      exact ⟨by rw [show (ByteArray.mk #[32]) = ByteArray.mk [32].toArray from rfl, cat_str]; rfl, hb.trans (hb4.mono hb.size)⟩
end Go.Proofs.YtkkildkleleppaaGreatDoor
namespace Go.Proofs.YtkkildkleleppaaGreatDoor
open Go.RowKit

/-- A command of a size that can be written. -/
structure FitC (c : C) : Prop where
  ec : In64 c.ec
  es : In64 c.es
  n : In64 c.n
  conn : In64 c.conn
  ch : ∀ x ∈ c.ch, In64 x
  chl : c.ch.length ≤ 1100000
  sql : c.sql.size ≤ 2000000
  psl : c.ps.length ≤ 1100000
  fps : fitVs c.ps
  lits : (litsT c.ps).length ≤ 20000000
  tl : c.told.length ≤ 1100000
  tps : ∀ t ∈ c.told, t.ps.length ≤ 1100000
  ft : fitTs c.told
  text : (textS c.told).length ≤ 20000000

/-- Function R writes it so. -/
def WritesTail (R : FuncId) (t : Nat) : Prop := ∀ (c : C) (pa : Option Addr) (pc : Nat) (w : World), FitC c → Env w → IsVs w pa c.ps →
  Calls Tryz.prog R #[.agg #[.int .i64 c.ek, .int .i64 c.ec, .int .i64 c.es, .string c.sql, .slice pa c.ps.length pc]] w (Ret w (.string ⟨(tailW t c).toArray⟩))

theorem sql_cat (s : ByteArray) : ByteArray.mk #[32] ++ s = ByteArray.mk (32 :: s.data.toList).toArray := by
  have h := cat_str [32] s.data.toList
  rw [arr_self] at h
  exact h

theorem wtail0 : WritesTail 84 0 := by
  intro c pa pc w hf hE hv
  clear hf hE hv
  go_enter Tryz.func84, Tryz.ntmps84
  go_wp2
  go_ret
  exact ⟨rfl, below_alloc _ _⟩
theorem wtail1 : WritesTail 87 1 := by
  intro c pa pc w hf hE hv
  have hs := hf.sql
  clear hf hE hv
  go_enter Tryz.func87, Tryz.ntmps87
  go_wp2
  go_ret
  exact ⟨by rw [sql_cat]; rfl, below_alloc _ _⟩
theorem wtail3 : WritesTail 93 3 := by
  intro c pa pc w hf hE hv
  by_cases h0 : c.ps = []
  · have HT : Hid (tailW 3 c = []) := Lib.hid (by simp [tailW, h0])
    have hl : ((c.ps.length : Int) == 0) = true := by simp [h0]
    clear hf hE hv h0
    go_enter Tryz.func93, Tryz.ntmps93
    go_wp2
    go_ret
    exact ⟨by rw [HT.out]; rfl, below_alloc _ _⟩
  · have HT : Hid (tailW 3 c = 32 :: litsT c.ps) := Lib.hid (by simp [tailW, h0])
    have hl : ((c.ps.length : Int) == 0) = false := by
      rw [beq_eq_false_iff_ne]
      intro e
      exact h0 (List.eq_nil_of_length_eq_zero (by omega))
    have HP := Lib.hid (fun w' hE h => params_any pa c.ps.length pc c.ps rfl (by have := hf.psl; omega) hf.fps w' hE h)
    have HE := Lib.hid (fun o => hE.below (below_alloc w o))
    have HV := Lib.hid (fun o => hv.below (below_alloc w o))
    clear hf hE hv h0
    go_enter Tryz.func93, Tryz.ntmps93
    go_wp2_with (go_at_call 59; refine (HP.out _ (HE.out _) (HV.out _)).mono ?_; rintro e w4 ⟨rfl, hb4⟩)
    go_ret
    exact ⟨by rw [HT.out]; rfl, (below_alloc _ _).trans (hb4.mono (by simp))⟩

set_option maxRecDepth 100000 in
set_option maxHeartbeats 1000000 in
theorem wtail2 : WritesTail 91 2 := by
  intro c pa pc w hf hE hv
  have HT : Hid (tailW 2 c = (32 :: litsT c.ps) ++ [32] ++ c.sql.data.toList) := Lib.hid (by simp [tailW])
  have hl := hf.lits
  have hs := hf.sql
  have k1 : ¬ (9223372036854775807 < (litsT c.ps).length + 1 + 1) := by omega
  have k2 : ¬ (9223372036854775807 < (litsT c.ps).length + 1 + 1 + c.sql.size) := by omega
  have HP := Lib.hid (fun w' hE h => params_any pa c.ps.length pc c.ps rfl (by have := hf.psl; omega) hf.fps w' hE h)
  have HE := Lib.hid (fun o => hE.below (below_drew (below_alloc w o)))
  have HV := Lib.hid (fun o => hv.below (below_drew (below_alloc w o)))
  clear hf hE hv
  go_enter Tryz.func91, Tryz.ntmps91
  go_wp2_with fail
  go_region_held3 (fun w' => w'.cell? ⟨w.heap.size, 3, none⟩ = some (.string c.sql) ∧ w'.cell? ⟨w.heap.size, 4, none⟩ = some (.slice pa c.ps.length pc)) (first | (with_reducible exact ⟨c3, c4⟩) | go_keep)
    (first | (go_at_call 59; refine (HP.out _ (HE.out _) (HV.out _)).mono ?_; rintro e w4 ⟨rfl, hb4⟩; have hb5 : Below (w.heap.size + 1) (w.alloc (.cells #[.int .i64 c.ek, .int .i64 c.ec, .int .i64 c.es, .string c.sql, .slice pa c.ps.length pc] 42)) w4 := (below_drew (Below.refl _ _)).trans (hb4.mono (by simp)); have c3 := box_cell hb5 3; have c4 := box_cell hb5 4))
  go_wp2_with fail
  go_ret
  refine ⟨?_, box_below hb5⟩
  rw [HT.out, show (ByteArray.mk #[32]) = ByteArray.mk [32].toArray from rfl, cat_str]
  rw [show c.sql = ByteArray.mk c.sql.data.toList.toArray from (arr_self _).symm, cat_str]
  rfl
end Go.Proofs.YtkkildkleleppaaGreatDoor
