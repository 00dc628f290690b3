/- Copies: bureauref02.Copy, bureaulaw31.copied. Sameness: SameRow, Same. -/
import Derived.Test.YtkkildkleleppaaGreatDoorJ14
import Derived.Test.YtkkildkleleppaaGreatDoorJ03
import Derived.Deep.RegionHeld3
import Derived.BigQuiet
import Derived.Handy
import Derived.Laws.StructEq
namespace Go.Proofs.YtkkildkleleppaaGreatDoor
open Go.RowKit

theorem infoV : (Tryz.prog.info? 80).map (fun i => (i.zero, i.size, i.bytes)) = some (some (.agg #[.int .i64 0, .int .i64 0, .string ⟨#[]⟩]), 3, 32) := by kernel_rfl
theorem infoT : (Tryz.prog.info? 71).map (fun i => (i.zero, i.size, i.bytes)) = some (some (.agg #[.string ⟨#[]⟩, .slice none 0 0]), 2, 40) := by kernel_rfl

/-- A row of values of the call's own is returned. -/
def CopyEnd (w : World) (vs : List V) (e : Ending) (w' : World) : Prop := ∃ v, e = .returned v ∧ w'.ownsRow w.heap.size 80 3 v vs.length (vcells vs) ∧ Below w.heap.size w w'

theorem Copy_any (a : Option Addr) (n c : Nat) (vs : List V) (hn : n = vs.length) (hl : n ≤ 16777216) (w : World) (h : IsVs w a vs) :
    Calls Tryz.prog 31 #[.slice a n c] w (CopyEnd w vs) := by
  subst hn
  have hr := Lib.hid h.reads
  go_enter Tryz.func31, Tryz.ntmps31
  go_wp2_with (at_builtin; (refine wpList_append_any w rfl (.tmp 4) (.tmp 5) _ rfl w.heap.size _ _ 3 32 Tryz.underlying40 infoV rfl (by decide) (by decide) (.slice none 0 0) 0 [] rfl (World.ownsRow_nil _ _ _ _) a vs.length c (vcells vs) rfl hr.out (vcells_one _) (by omega) (Nat.le_refl _) ?_); intro v1 w1 hown1 hg1)
  go_ret
  rw [Nat.zero_add, List.nil_append] at hown1
  exact ⟨v1, rfl, hown1, own_next (World.ownsRow_nil _ _ 80 3) (Below.refl _ _) hg1 (Nat.le_refl _)⟩

theorem own_mono {e : TypeId} {w : World} {B B' size n : Nat} {v : Value} {xs : List Value} (hB : B' ≤ B) (h : w.ownsRow B e size v n xs) : w.ownsRow B' e size v n xs := by
  refine ⟨h.1, ?_⟩
  rcases h.2 with hn | ⟨g, cap, cur, hv, hbg, rest⟩
  · exact .inl hn
  · exact .inr ⟨g, cap, cur, hv, Nat.le_trans hB hbg, rest⟩
theorem below_alloc (w : World) (o : Obj) : Below w.heap.size w (w.alloc o) := (Below.refl _ w).alloc (Nat.le_refl _) o

theorem below_drew {B : Nat} {w w' : World} (h : Below B w w') : Below B w w'.drew := h.trans ⟨rfl, rfl, rfl, Nat.le_refl _, fun _ _ => rfl⟩
theorem own_drew {e : TypeId} {w : World} {B size n : Nat} {v : Value} {xs : List Value} (h : w.ownsRow B e size v n xs) : w.drew.ownsRow B e size v n xs := own_kept h (below_drew (Below.refl _ _))
theorem TRow.drew_ {w : World} {B : Nat} {e : TypeId} {xs : List Value} {ts : List T} (h : TRow w B e xs ts) : TRow w.drew B e xs ts := h.below (below_drew (Below.refl _ _))

def CopiedEnd (w : World) (ts : List T) (e : Ending) (w' : World) : Prop := ∃ v xs, e = .returned v ∧ w'.ownsRow w.heap.size 71 2 v ts.length xs ∧ TRow w' w.heap.size 80 xs ts ∧ Below w.heap.size w w'

set_option maxRecDepth 100000 in
set_option maxHeartbeats 2000000 in
theorem copied_any (a : Option Addr) (n c : Nat) (ts : List T) (hn : n = ts.length) (hl : n ≤ 16777216) (hps : ∀ t ∈ ts, t.ps.length ≤ 16777216) (w : World) (h : IsTs w a ts) :
    Calls Tryz.prog 10 #[.slice a n c] w (CopiedEnd w ts) := by
  have HN := Lib.hid hn
  have HP := Lib.hid hps
  clear hn hps
  go_enter Tryz.func10, Tryz.ntmps10
  go_wp2
  go_loopw [3, 4] (fun out i wr => ∃ (k : Nat) (xs : List Value), k ≤ n ∧ i = .int .i64 k ∧ wr.ownsRow w.heap.size 71 2 out k xs ∧ TRow wr w.heap.size 80 xs (ts.take k) ∧ Below w.heap.size w wr) (fun _ i _ => n - (intOf i).toNat)
  case atStart => exact ⟨0, [], by omega, rfl, World.ownsRow_nil _ _ _ _, TRow.nil_ _ _ _, Below.refl _ _⟩
  case round =>
    obtain ⟨k, xs, hk, rfl, hown, htr, hb⟩ := hrel
    by_cases hlt : k < n
    · have hkv : k < ts.length := by have := HN.out; omega
      obtain ⟨b, o, rfl, t0, pa, pc, t1, hpc, hvs⟩ := h.at_ hkv
      have q0 := (hb.cell (lt_of_cell t0)).trans t0
      have q1 := (hb.cell (lt_of_cell t1)).trans t1
      have hpl := HP.out ts[k] (List.getElem_mem hkv)
      have HT : Hid (ts.take (k + 1) = ts.take k ++ [ts[k]]) := Lib.hid (List.take_succ_eq_append_getElem hkv)
      generalize ts[k] = t at t0 t1 q0 q1 hpc hvs HT hpl
      obtain ⟨sql, ps⟩ := t
      simp only at t0 t1 q0 q1 hpc hvs hpl
      generalize hm : ps.length = m at t1 q1 hpc hpl
      have HM := Lib.hid hm
      have HV := Lib.hid (hvs.below hb)
      have T0 := Lib.hid t0
      have T1 := Lib.hid t1
      clear hm hvs t0 t1
      have hz := lt_of_cell q0
      simp only at hz
      have hk0 : (0 : Int) ≤ (k : Int) := Int.natCast_nonneg _
      have hk1 : (k : Int) < (n : Int) := by omega
      go_wp2_with fail
      go_region_held3 (fun w' => w'.cell? ⟨b, o + k * 2, none⟩ = some (.string sql) ∧ w'.cell? ⟨b, o + k * 2 + 1, none⟩ = some (.slice pa m pc))
        (first
          | exact ⟨(hbw3.cell (lt_of_cell T0.out)).trans T0.out, (hbw3.cell (lt_of_cell T1.out)).trans T1.out⟩
          | exact ⟨((hbw2.alloc hz2 _).cell (lt_of_cell T0.out)).trans T0.out, ((hbw2.alloc hz2 _).cell (lt_of_cell T1.out)).trans T1.out⟩
          | exact ⟨(hbw2.cell (lt_of_cell T0.out)).trans T0.out, (hbw2.cell (lt_of_cell T1.out)).trans T1.out⟩
          | go_keep)
        (first
          | (go_at_call 31; refine (Copy_any pa m pc ps HM.out.symm hpl _ (by exact HV.out)).mono ?_; rintro e w2 ⟨v2, rfl, hown2, hbc⟩; obtain ⟨pa2, pc2, rfl, hx2⟩ := own_form hown2; clear hx2; have hbw2 : Below w.heap.size w w2 := (below_drew hb).trans (hbc.mono hb.size); have hz2 : w.heap.size ≤ w2.heap.size := hbw2.size)
          | (refine step_append_any (w2.alloc (.cells #[.string sql, .slice pa2 ps.length pc2] 71)) rfl (.tmp 11) (.tmp 24) _ (by rfl) w.heap.size _ _ 2 40 Tryz.underlying22 infoT rfl (by decide) (by decide) _ k xs (by rfl) (World.ownsRow.alloc (own_kept (own_drew hown) hbc) _) _ 1 1 [.string sql, .slice pa2 ps.length pc2] (by rfl) ⟨rfl, fun _ => ⟨_, rfl, cells_new w2 _ _ _ rfl⟩⟩ (by intro u hu; simp only [List.mem_cons, List.not_mem_nil, or_false] at hu; rcases hu with rfl | rfl <;> first | rfl | exact own_slice hown2) (by omega) (by simp; omega) ?_; intro v3 w3 hown3 hg3; have hbw3 : Below w.heap.size w w3 := own_next (World.ownsRow.alloc (own_kept (own_drew hown) hbc) _) (hbw2.alloc hz2 _) hg3 (by simp; omega)))
      go_wp2
      go_roundw
      case rel =>
        refine ⟨k + 1, _, by omega, by simp, hown3, ?_, hbw3⟩
        rw [HT.out]
        have hA := TRow.push (TRow.below htr.drew_ hbc) ⟨sql, ps⟩ _ (own_slice hown2) (own_mono hb.size hown2)
        exact TRow.kept (TRow.below hA (below_alloc _ _)) (World.ownsRow.alloc (own_kept (own_drew hown) hbc) _) (by decide) hg3
      case measure => simp [intOf]; omega
    · have hk2 : k = n := by omega
      subst hk2
      go_wp2
      go_ret
      rw [HN.out, List.take_length] at htr
      exact ⟨_, xs, rfl, by rw [← HN.out]; exact hown, htr, hb⟩
end Go.Proofs.YtkkildkleleppaaGreatDoor
namespace Go.Proofs.YtkkildkleleppaaGreatDoor
open Go.RowKit

def sameV (v u : V) : Bool := v.k == u.k && v.n == u.n && v.s.data.toList == u.s.data.toList
/-- Are two rows the same, value by value? -/
def sameVs (vs us : List V) : Bool := decide (vs.length = us.length) && (vs.zip us).all fun p => sameV p.1 p.2
theorem sameV_self (v : V) : sameV v v = true := by simp [sameV]
theorem zip_self_all (vs : List V) : (vs.zip vs).all (fun p => sameV p.1 p.2) = true := by
  induction vs with
  | nil => rfl
  | cons v r ih => simp only [List.zip_cons_cons, List.all_cons, sameV_self, ih, Bool.and_self]
theorem sameVs_self (vs : List V) : sameVs vs vs = true := by
  unfold sameVs; rw [zip_self_all]; simp
theorem sameVs_len {vs us : List V} (h : vs.length ≠ us.length) : sameVs vs us = false := by simp [sameVs, h]
theorem sameVs_at {vs us : List V} {k : Nat} (h1 : k < vs.length) (h2 : k < us.length) (h : sameV vs[k] us[k] = false) : sameVs vs us = false := by
  have : (vs.zip us).all (fun p => sameV p.1 p.2) = false := by
    rw [List.all_eq_false]
    exact ⟨(vs[k], us[k]), List.mem_iff_getElem.2 ⟨k, by simp; omega, by simp⟩, by simp [h]⟩
  simp [sameVs, this]
theorem sameVs_all {vs us : List V} (hl : vs.length = us.length) (h : ∀ i (h1 : i < vs.length) (h2 : i < us.length), sameV vs[i] us[i] = true) : sameVs vs us = true := by
  have : (vs.zip us).all (fun p => sameV p.1 p.2) = true := by
    rw [List.all_eq_true]
    intro p hp
    obtain ⟨i, hi, rfl⟩ := List.mem_iff_getElem.1 hp
    simp only [List.length_zip] at hi
    simpa using h i (by omega) (by omega)
  simp [sameVs, this, hl]

theorem run_neq_V (v u : V) (w : World) : (binOp .neq 80 (.agg #[.int .i64 v.k, .int .i64 v.n, .string v.s]) (.agg #[.int .i64 u.k, .int .i64 u.n, .string u.s])).run Tryz.prog w = .ok (.bool (!(sameV v u))) w := by
  have u1 := Tryz.underlying78
  have u2 := Tryz.underlying2
  have u3 := Tryz.underlying9
  have hS : Tryz.prog.underlying 80 = some (.struct (Tryz.prog.fieldsOf 80)) := by kernel_rfl
  have hp : Tryz.prog.stoodInHeld 80 = false := by kernel_rfl
  rw [run_neq_struct, show (10000 : Nat) = 9999 + 1 from rfl, run_equalIn_agg w 9999 80 _ _ hS hp]
  simp only [Program.fieldsOf, Tryz.underlying80]
  go_simp
  unfold sameV
  rw [toList_data, toList_data]
  by_cases h1 : v.k = u.k <;> by_cases h2 : v.n = u.n <;> by_cases h3 : v.s.data = u.s.data <;> simp [h1, h2, h3]

set_option maxRecDepth 100000 in
set_option maxHeartbeats 1000000 in
theorem SameRow_any (a : Option Addr) (n c : Nat) (vs : List V) (hn : n = vs.length) (a' : Option Addr) (n' c' : Nat) (us : List V) (hn' : n' = us.length) (hl : n ≤ 100000000) (hl' : n' ≤ 100000000) (w : World) (h : IsVs w a vs) (h' : IsVs w a' us) :
    Calls Tryz.prog 38 #[.slice a n c, .slice a' n' c'] w (Ret w (.bool (sameVs vs us))) := by
  by_cases hne : n = n'
  · subst hne
    have HN := Lib.hid hn
    have HN' := Lib.hid hn'
    clear hn hn'
    go_enter Tryz.func38, Tryz.ntmps38
    go_wp2
    go_loopw [5] (fun i wr => ∃ k : Nat, k ≤ n ∧ i = .int .i64 k ∧ Below w.heap.size w wr ∧ Hid (∀ j, j < k → ∀ (h1 : j < vs.length) (h2 : j < us.length), sameV vs[j] us[j] = true)) (fun i _ => n - (intOf i).toNat)
    case atStart => exact ⟨0, by omega, rfl, Below.refl _ _, Lib.hid (by intro j hj; omega)⟩
    case round =>
      obtain ⟨k, hk, rfl, hb, HA⟩ := hrel
      by_cases hlt : k < n
      · have hkv : k < vs.length := by have := HN.out; omega
        have hku : k < us.length := by have := HN'.out; omega
        obtain ⟨b, o, rfl, c0, c1, c2⟩ := (h.below hb).at_ hkv
        obtain ⟨b', o', rfl, d0, d1, d2⟩ := (h'.below hb).at_ hku
        generalize hv : vs[k] = v at c0 c1 c2
        generalize hu : us[k] = u at d0 d1 d2
        have HV := Lib.hid hv
        have HU := Lib.hid hu
        clear hv hu
        have i0 : (0 : Int) ≤ (k : Int) := Int.natCast_nonneg _
        have i1 : (k : Int) < (n : Int) := by omega
        have hneq := run_neq_V v u
        cases hs : sameV v u with
        | true =>
          simp only [hs] at hneq
          have HS : Hid (∀ j, j < k + 1 → ∀ (h1 : j < vs.length) (h2 : j < us.length), sameV vs[j] us[j] = true) := Lib.hid (by
            intro j hj h1 h2
            by_cases hjk : j < k
            · exact HA.out j hjk h1 h2
            · have : j = k := by omega
              subst this
              rw [HV.out, HU.out, hs])
          clear hs
          go_wp2_with fail
          go_quiet (fail)
          go_wp2
          go_roundw
          case rel => exact ⟨k + 1, by omega, by go_num, below_drewN hb _, HS⟩
          case measure => simp [intOf]; omega
        | false =>
          simp only [hs] at hneq
          have HS : Hid (sameVs vs us = false) := Lib.hid (sameVs_at hkv hku (by rw [HV.out, HU.out, hs]))
          clear hs
          go_wp2_with fail
          go_quiet (fail)
          go_wp2
          go_ret
          rw [HS.out]
          exact ⟨rfl, below_drewN hb _⟩
      · have HS : Hid (sameVs vs us = true) := Lib.hid (sameVs_all (by rw [← HN.out, ← HN'.out]) (fun i h1 h2 => HA.out i (by have := HN.out; omega) h1 h2))
        go_wp2
        go_ret
        rw [HS.out]
        exact ⟨rfl, hb⟩
  · have HS : Hid (sameVs vs us = false) := Lib.hid (sameVs_len (by rw [← hn, ← hn']; exact hne))
    have hi : ((n : Int) == (n' : Int)) = false := by simp; omega
    have hi2 : ((n : Int) != (n' : Int)) = true := by simp; omega
    clear hn hn'
    go_enter Tryz.func38, Tryz.ntmps38
    go_wp2
    go_ret
    rw [HS.out]
    exact ⟨rfl, Below.refl _ _⟩

def sameT (t u : T) : Bool := t.sql.data.toList == u.sql.data.toList && sameVs t.ps u.ps
/-- Are two lists of things told the same? -/
def sameTs (ts us : List T) : Bool := decide (ts.length = us.length) && (ts.zip us).all fun p => sameT p.1 p.2
theorem sameT_self (t : T) : sameT t t = true := by simp [sameT, sameVs_self]
theorem sameTs_self (ts : List T) : sameTs ts ts = true := by
  have : (ts.zip ts).all (fun p => sameT p.1 p.2) = true := by
    induction ts with
    | nil => rfl
    | cons t r ih => simp only [List.zip_cons_cons, List.all_cons, sameT_self, ih, Bool.and_self]
  simp [sameTs, this]
theorem sameTs_len {ts us : List T} (h : ts.length ≠ us.length) : sameTs ts us = false := by simp [sameTs, h]
theorem sameTs_at {ts us : List T} {k : Nat} (h1 : k < ts.length) (h2 : k < us.length) (h : sameT ts[k] us[k] = false) : sameTs ts us = false := by
  have : (ts.zip us).all (fun p => sameT p.1 p.2) = false := by
    rw [List.all_eq_false]
    exact ⟨(ts[k], us[k]), List.mem_iff_getElem.2 ⟨k, by simp; omega, by simp⟩, by simp [h]⟩
  simp [sameTs, this]
theorem sameTs_all {ts us : List T} (hl : ts.length = us.length) (h : ∀ i (h1 : i < ts.length) (h2 : i < us.length), sameT ts[i] us[i] = true) : sameTs ts us = true := by
  have : (ts.zip us).all (fun p => sameT p.1 p.2) = true := by
    rw [List.all_eq_true]
    intro p hp
    obtain ⟨i, hi, rfl⟩ := List.mem_iff_getElem.1 hp
    simp only [List.length_zip] at hi
    simpa using h i (by omega) (by omega)
  simp [sameTs, this, hl]

set_option maxRecDepth 100000 in
set_option maxHeartbeats 2000000 in
theorem Same_any (a : Option Addr) (n c : Nat) (ts : List T) (hn : n = ts.length) (a' : Option Addr) (n' c' : Nat) (us : List T) (hn' : n' = us.length) (hl : n ≤ 100000000) (hl' : n' ≤ 100000000)
    (hp : ∀ t ∈ ts, t.ps.length ≤ 100000000) (hp' : ∀ t ∈ us, t.ps.length ≤ 100000000) (w : World) (h : IsTs w a ts) (h' : IsTs w a' us) :
    Calls Tryz.prog 15 #[.slice a n c, .slice a' n' c'] w (Ret w (.bool (sameTs ts us))) := by
  have HP := Lib.hid hp
  have HP' := Lib.hid hp'
  clear hp hp'
  by_cases hne : n = n'
  · subst hne
    have HN := Lib.hid hn
    have HN' := Lib.hid hn'
    clear hn hn'
    go_enter Tryz.func15, Tryz.ntmps15
    go_wp2
    go_loopw [5] (fun i wr => ∃ k : Nat, k ≤ n ∧ i = .int .i64 k ∧ Below w.heap.size w wr ∧ Hid (∀ j, j < k → ∀ (h1 : j < ts.length) (h2 : j < us.length), sameT ts[j] us[j] = true)) (fun i _ => n - (intOf i).toNat)
    case atStart => exact ⟨0, by omega, rfl, Below.refl _ _, Lib.hid (by intro j hj; omega)⟩
    case round =>
      obtain ⟨k, hk, rfl, hb, HA⟩ := hrel
      by_cases hlt : k < n
      · have hkv : k < ts.length := by have := HN.out; omega
        have hku : k < us.length := by have := HN'.out; omega
        obtain ⟨b, o, rfl, t0, pa, pc, t1, hpc, hvs⟩ := (h.below hb).at_ hkv
        obtain ⟨b', o', rfl, u0, qa, qc, u1, hqc, hus⟩ := (h'.below hb).at_ hku
        have hpl := HP.out ts[k] (List.getElem_mem hkv)
        have hql := HP'.out us[k] (List.getElem_mem hku)
        generalize hv : ts[k] = t at t0 t1 hpc hvs hpl
        generalize hu : us[k] = u at u0 u1 hqc hus hql
        have HV := Lib.hid hv
        have HU := Lib.hid hu
        obtain ⟨sql, ps⟩ := t
        obtain ⟨sql', ps'⟩ := u
        simp only at t0 t1 hpc hvs u0 u1 hqc hus hpl hql
        have HVS := Lib.hid hvs
        have HUS := Lib.hid hus
        clear hv hu hvs hus
        have i0 : (0 : Int) ≤ (k : Int) := Int.natCast_nonneg _
        have i1 : (k : Int) < (n : Int) := by omega
        cases hq : (sql.toList == sql'.toList) with
        | false =>
          have HS : Hid (sameTs ts us = false) := Lib.hid (sameTs_at hkv hku (by rw [HV.out, HU.out, sameT, ← toList_data, ← toList_data, hq]; rfl))
          have hq2 : (!sql.toList == sql'.toList) = true := by rw [hq]; rfl
          go_wp2_with fail
          go_quiet (fail)
          go_wp2
          go_ret
          rw [HS.out]
          exact ⟨rfl, below_drewN hb _⟩
        | true =>
          have hq2 : (!sql.toList == sql'.toList) = false := by rw [hq]; rfl
          cases hs : sameVs ps ps' with
          | false =>
            have HS : Hid (sameTs ts us = false) := Lib.hid (sameTs_at hkv hku (by rw [HV.out, HU.out, sameT, hs, Bool.and_false]))
            have HC := Lib.hid (fun w' h h' => SameRow_any pa ps.length pc ps rfl qa ps'.length qc ps' rfl hpl hql w' h h')
            rw [hs] at HC
            clear hs
            go_wp2_with fail
            go_region_held3 (fun w' => w'.cell? ⟨b, o + k * 2, none⟩ = some (.string sql) ∧ w'.cell? ⟨b, o + k * 2 + 1, none⟩ = some (.slice pa ps.length pc) ∧ w'.cell? ⟨b', o' + k * 2, none⟩ = some (.string sql') ∧ w'.cell? ⟨b', o' + k * 2 + 1, none⟩ = some (.slice qa ps'.length qc))
              (first | exact ⟨t0, t1, u0, u1⟩ | exact ⟨(hb3.cell (lt_of_cell t0)).trans t0, (hb3.cell (lt_of_cell t1)).trans t1, (hb3.cell (lt_of_cell u0)).trans u0, (hb3.cell (lt_of_cell u1)).trans u1⟩ | go_keep)
              (first | (go_at_call 38; refine (HC.out wr.drew HVS.out HUS.out).mono ?_; rintro e w3 ⟨rfl, hb3⟩))
            go_wp2
            go_ret
            rw [HS.out]
            exact ⟨rfl, (below_drew hb).trans (hb3.mono hb.size)⟩
          | true =>
            have HS : Hid (∀ j, j < k + 1 → ∀ (h1 : j < ts.length) (h2 : j < us.length), sameT ts[j] us[j] = true) := Lib.hid (by
              intro j hj h1 h2
              by_cases hjk : j < k
              · exact HA.out j hjk h1 h2
              · have : j = k := by omega
                subst this
                rw [HV.out, HU.out, sameT, hs, ← toList_data, ← toList_data, hq]; rfl)
            have HC := Lib.hid (fun w' h h' => SameRow_any pa ps.length pc ps rfl qa ps'.length qc ps' rfl hpl hql w' h h')
            rw [hs] at HC
            clear hs
            go_wp2_with fail
            go_region_held3 (fun w' => w'.cell? ⟨b, o + k * 2, none⟩ = some (.string sql) ∧ w'.cell? ⟨b, o + k * 2 + 1, none⟩ = some (.slice pa ps.length pc) ∧ w'.cell? ⟨b', o' + k * 2, none⟩ = some (.string sql') ∧ w'.cell? ⟨b', o' + k * 2 + 1, none⟩ = some (.slice qa ps'.length qc))
              (first | exact ⟨t0, t1, u0, u1⟩ | exact ⟨(hb3.cell (lt_of_cell t0)).trans t0, (hb3.cell (lt_of_cell t1)).trans t1, (hb3.cell (lt_of_cell u0)).trans u0, (hb3.cell (lt_of_cell u1)).trans u1⟩ | go_keep)
              (first | (go_at_call 38; refine (HC.out wr.drew HVS.out HUS.out).mono ?_; rintro e w3 ⟨rfl, hb3⟩))
            go_wp2
            go_roundw
            case rel => first | exact ⟨k + 1, by omega, by go_num, (below_drew hb).trans (hb3.mono hb.size), HS⟩ | ((repeat apply Exists.intro); exact ⟨⟨k + 1, by omega, by go_num, (below_drew hb).trans (hb3.mono hb.size), HS⟩, rfl⟩)
            case measure => simp [intOf]; omega
      · have HS : Hid (sameTs ts us = true) := Lib.hid (sameTs_all (by rw [← HN.out, ← HN'.out]) (fun i h1 h2 => HA.out i (by have := HN.out; omega) h1 h2))
        go_wp2
        go_ret
        rw [HS.out]
        exact ⟨rfl, hb⟩
  · have HS : Hid (sameTs ts us = false) := Lib.hid (sameTs_len (by rw [← hn, ← hn']; exact hne))
    have hi : ((n : Int) == (n' : Int)) = false := by simp; omega
    have hi2 : ((n : Int) != (n' : Int)) = true := by simp; omega
    clear hn hn'
    go_enter Tryz.func15, Tryz.ntmps15
    go_wp2
    go_ret
    rw [HS.out]
    exact ⟨rfl, Below.refl _ _⟩
end Go.Proofs.YtkkildkleleppaaGreatDoor
