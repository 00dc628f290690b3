/- The shell's rows of literals: the document's. Rows of values and of things told that a call makes itself. -/
import Derived.Test.YtkkildkleleppaaGreatDoorJ13
import Derived.Test.YtkkildkleleppaaGreatDoorJ01
import Derived.Maps.AppendAt
import Derived.Deep.AppendLies
import Derived.RegionTactic
import Derived.OwnWalk
namespace Go.Proofs.YtkkildkleleppaaGreatDoor
open Go.RowKit

/-- Literals with commas between. -/
def litsT : List V → List UInt8
  | [] => []
  | v :: r => v.lit ++ paramsT r
theorem litsT_one {l : List V} {v : V} (h : l = []) : litsT (l ++ [v]) = litsT l ++ v.lit := by subst h; simp [litsT, paramsT]
theorem litsT_more {l : List V} {v : V} (h : l ≠ []) : litsT (l ++ [v]) = litsT l ++ [44] ++ v.lit := by
  cases l with
  | nil => exact absurd rfl h
  | cons u r => simp [litsT, paramsT]
theorem litsT_len (vs : List V) (hf : fitVs vs) : (litsT vs).length ≤ 804 * vs.length := by
  cases vs with
  | nil => simp [litsT]
  | cons v r =>
    have h1 := lit_len v (hf v (by simp))
    have h2 := paramsT_len r (fun x hx => hf x (by simp [hx]))
    simp [litsT]; omega

set_option maxHeartbeats 1000000 in
theorem Literals_any (a : Option Addr) (n c : Nat) (ps : List V) (hn : n = ps.length) (hl : n ≤ 16777216) (hf : fitVs ps) (w : World) (hE : Env w) (h : IsVs w a ps) :
    Calls Tryz.prog 63 #[.slice a n c] w (Ret w (.string ⟨(litsT ps).toArray⟩)) := by
  have HN := Lib.hid hn
  have HE := Lib.hid hE
  have HF := Lib.hid hf
  clear hn hE hf
  go_enter Tryz.func63, Tryz.ntmps63
  go_wp2
  go_loopw [3, 4, 5, 6] (fun out i _ _ wr => ∃ k : Nat, k ≤ n ∧ i = .int .i64 k ∧ out = .string ⟨(litsT (ps.take k)).toArray⟩ ∧ Below w.heap.size w wr) (fun _ i _ _ _ => n - (intOf i).toNat)
  case atStart => exact ⟨0, by omega, rfl, by simp [litsT], Below.refl _ _⟩
  case round =>
    obtain ⟨k, hk, rfl, rfl, hb⟩ := hrel
    have hpl := litsT_len (ps.take k) (fun v hv => HF.out v (List.mem_of_mem_take hv))
    have hpl2 : (ps.take k).length ≤ k := List.length_take_le _ _
    have hpl3 : (litsT (ps.take k)).length ≤ 13488881664 := by omega
    clear hpl hpl2
    by_cases hlt : k < n
    · have hkv : k < ps.length := by have := HN.out; omega
      obtain ⟨b, o, rfl, c0, c1, c2⟩ := (h.below hb).at_ hkv
      have htk : ps.take (k + 1) = ps.take k ++ [ps[k]] := List.take_succ_eq_append_getElem hkv
      have HFv := Lib.hid (HF.out ps[k] (List.getElem_mem hkv))
      have hll := lit_len ps[k] HFv.out
      have HE2 := Lib.hid (HE.out.below hb)
      by_cases hk0 : k = 0
      · have HT : Hid (litsT (ps.take (k + 1)) = litsT (ps.take k) ++ ps[k].lit) := Lib.hid (by rw [htk]; exact litsT_one (by rw [hk0]; rfl))
        clear htk
        generalize ps[k] = v at c0 c1 c2 HT HFv hll
        have hp : ¬ (0 : Int) < (k : Int) := by omega
        clear hk0
        go_wp2_with (go_at_call 73; refine (RPrint_any v HFv.out _ HE2.out).mono ?_; rintro e w4 ⟨rfl, hb4⟩)
        go_roundw
        case rel =>
          refine ⟨k + 1, by omega, by go_num, ?_, hb.trans (hb4.mono hb.size)⟩
          rw [HT.out, cat_str]
        case measure => simp [intOf]; omega
      · have HT : Hid (litsT (ps.take (k + 1)) = litsT (ps.take k) ++ [44] ++ ps[k].lit) := Lib.hid (by rw [htk]; exact litsT_more (by intro e; have := congrArg List.length e; rw [List.length_take, List.length_nil] at this; omega))
        clear htk
        generalize ps[k] = v at c0 c1 c2 HT HFv hll
        have hp : (0 : Int) < (k : Int) := by omega
        go_wp2_with (go_at_call 73; refine (RPrint_any v HFv.out _ HE2.out).mono ?_; rintro e w4 ⟨rfl, hb4⟩)
        go_roundw
        case rel =>
          refine ⟨k + 1, by omega, by go_num, ?_, hb.trans (hb4.mono hb.size)⟩
          rw [HT.out, show (ByteArray.mk #[44]) = ByteArray.mk [44].toArray from rfl, cat_str, cat_str]
        case measure => simp [intOf]; omega
    · have hkn : k = n := by omega
      have HK : Hid (ps.take k = ps) := by
        apply Lib.hid
        rw [hkn, HN.out]; exact List.take_length
      clear hkn
      go_wp2
      go_ret
      refine ⟨?_, hb⟩
      apply ret_str
      rw [HK.out]
end Go.Proofs.YtkkildkleleppaaGreatDoor
namespace Go.Proofs.YtkkildkleleppaaGreatDoor
open Go.RowKit

/-- A slice that reads as a list of cells, nil let in. -/
def Reads (w : World) (size : Nat) (A : Option Addr) (n : Nat) (xs : List Value) : Prop :=
  xs.length = n * size ∧ (0 < n → ∃ ad, A = some ad ∧ ∀ j u, xs[j]? = some u → w.cell? (ad.add j) = some u)

section
variable {P : Program} (w : World)
theorem run_append_of_nil (base : Nat) (t ty e : TypeId) (i : TypeInfo) (size : Nat) (ht : P.underlying t = some (.slice e)) (hi : P.info? e = some i)
    (v : Value) (n : Nat) (xs : List Value) (hown : w.ownsRow base e size v n xs) (c : Nat) : (Builtin.append_ #[t, t] ty #[v, .slice none 0 c]).run P w = .ok v w := by
  rcases hown.2 with ⟨rfl, rfl⟩ | ⟨g, cap, cur, rfl, _, _, hnc, _⟩
  · simp [Builtin.append_, run_underlying ht, sizeOf, typeInfo, hi, Builtin.lenOf, Builtin.firstCells]
  · simp [Builtin.append_, run_underlying ht, sizeOf, typeInfo, hi, Builtin.lenOf, Builtin.firstCells, hnc, storeCells]

theorem run_append_any (base : Nat) (t ty e : TypeId) (i : TypeInfo) (z : Value) (size bytes : Nat) (ht : P.underlying t = some (.slice e)) (hi : P.info? e = some i) (hz : i.zero = some z)
    (hsize : i.size = size) (hby : i.bytes = bytes) (hzs : z.cells.size = size) (hsz : 0 < size)
    (v : Value) (n : Nat) (xs : List Value) (hown : w.ownsRow base e size v n xs)
    (A : Option Addr) (m c : Nat) (news : List Value) (hr : Reads w size A m news) (h1 : ∀ u ∈ news, u.oneCell' = true)
    (h63 : n + m ≤ maxLen) (hbytes : (n + m) * bytes ≤ 140737488355328) (hbase : base ≤ w.heap.size) :
    ∃ v' w', (Builtin.append_ #[t, t] ty #[v, .slice A m c]).run P w = .ok v' w' ∧ w'.ownsRow base e size v' (n + m) (xs ++ news) ∧ w.grownBy w' v.ownBlock ∧
      (v'.ownBlock = v.ownBlock ∨ v'.ownBlock = some w.heap.size) := by
  rcases A with _ | ad
  · have hm : m = 0 := by
      rcases Nat.eq_zero_or_pos m with h0 | h0
      · exact h0
      · obtain ⟨ad, h, _⟩ := hr.2 h0
        cases h
    subst hm
    have hn : news = [] := List.eq_nil_of_length_eq_zero (by simpa using hr.1)
    subst hn
    exact ⟨v, w, run_append_of_nil w base t ty e i size ht hi v n xs hown c, by simpa using hown, World.grownBy.refl w _, .inl rfl⟩
  · have hcells : ∀ j u, news[j]? = some u → w.cell? (ad.add j) = some u := by
      intro j u hu
      rcases Nat.eq_zero_or_pos m with h0 | h0
      · subst h0
        have hn : news = [] := List.eq_nil_of_length_eq_zero (by simpa using hr.1)
        subst hn
        simp at hu
      · obtain ⟨ad', h, hc⟩ := hr.2 h0
        injection h with h
        subst h
        exact hc j u hu
    obtain ⟨v', w', hrun, h2, h3, _, h5⟩ := run_append_own_at (P := P) w base t ty e i z size bytes ht hi hz hsize hby hzs hsz v n xs hown ad m c news hr.1 hcells h1 h63 hbytes hbase
    exact ⟨v', w', hrun, h2, h3, h5⟩

theorem wp_append_any {o : Oper} {a : Act} {K : Act → World → Prop} {Q : Exit → Act → World → Prop} (s x : Operand) (t : TypeId)
    (ho : o.op = .call { callee := .builtin .append, args := #[s, x], argTypes := #[t, t] })
    (base : Nat) (e : TypeId) (z : Value) (size bytes : Nat) (ht : P.underlying t = some (.slice e)) (hinfo : (P.info? e).map (fun i => (i.zero, i.size, i.bytes)) = some (some z, size, bytes)) (hzs : z.cells.size = size) (hsz : 0 < size) (hby : bytes ≤ 1024)
    (v : Value) (n : Nat) (xs : List Value) (hs : a.eval s = v) (hown : w.ownsRow base e size v n xs)
    (A : Option Addr) (m c : Nat) (news : List Value) (hx : a.eval x = .slice A m c) (hr : Reads w size A m news) (h1 : ∀ u ∈ news, u.oneCell' = true)
    (hn : n + m ≤ 137438953472) (hbase : base ≤ w.heap.size)
    (h : ∀ v' w', w'.ownsRow base e size v' (n + m) (xs ++ news) → w.grownBy w' v.ownBlock → K (a.put o.dst v') w') : o.wp P a w K Q := by
  obtain ⟨i, hi, hz0, hz1, hz2⟩ := info_parts hinfo
  obtain ⟨v', w', hrun, h2, h3, _⟩ := run_append_any (P := P) w base t o.type e i z size bytes ht hi hz0 hz1 hz2 hzs hsz v n xs hown A m c news hr h1 (by unfold maxLen; omega) (by have := Nat.mul_le_mul hn hby; omega) hbase
  unfold Oper.wp execOp
  simp only [ho, resolve, invoke, builtin, Sem.run_bind, Sem.run_pure, Result.andThen_ok, List.map_toArray, List.map_cons, List.map_nil, hs, hx, hrun]
  exact h v' w' h2 h3

theorem wpList_append_any {ops : Array Oper} {rest : List Oper} {o : Oper} {a : Act} {Q : Exit → Act → World → Prop} (hgd : o.guard = none) (s x : Operand) (t : TypeId)
    (ho : o.op = .call { callee := .builtin .append, args := #[s, x], argTypes := #[t, t] })
    (base : Nat) (e : TypeId) (z : Value) (size bytes : Nat) (ht : P.underlying t = some (.slice e)) (hinfo : (P.info? e).map (fun i => (i.zero, i.size, i.bytes)) = some (some z, size, bytes)) (hzs : z.cells.size = size) (hsz : 0 < size) (hby : bytes ≤ 1024)
    (v : Value) (n : Nat) (xs : List Value) (hs : a.eval s = v) (hown : w.ownsRow base e size v n xs)
    (A : Option Addr) (m c : Nat) (news : List Value) (hx : a.eval x = .slice A m c) (hr : Reads w size A m news) (h1 : ∀ u ∈ news, u.oneCell' = true)
    (hn : n + m ≤ 137438953472) (hbase : base ≤ w.heap.size)
    (h : ∀ v' w', w'.ownsRow base e size v' (n + m) (xs ++ news) → w.grownBy w' v.ownBlock → wpList P ops Q rest (a.put o.dst v') w') : wpList P ops Q (o :: rest) a w :=
  wpList_plain hgd fun _ hK => wp_append_any w s x t ho base e z size bytes ht hinfo hzs hsz hby v n xs hs hown A m c news hx hr h1 hn hbase fun v' w' h2 h3 => hK _ _ (h v' w' h2 h3)

theorem step_append_any {ops : Array Oper} {o : Oper} {a : Act} {K : Act → World → Prop} {Q : Exit → Act → World → Prop} {E : Prop} (hgd : o.guard = none) (s x : Operand) (t : TypeId)
    (ho : o.op = .call { callee := .builtin .append, args := #[s, x], argTypes := #[t, t] })
    (base : Nat) (e : TypeId) (z : Value) (size bytes : Nat) (ht : P.underlying t = some (.slice e)) (hinfo : (P.info? e).map (fun i => (i.zero, i.size, i.bytes)) = some (some z, size, bytes)) (hzs : z.cells.size = size) (hsz : 0 < size) (hby : bytes ≤ 1024)
    (v : Value) (n : Nat) (xs : List Value) (hs : a.eval s = v) (hown : w.ownsRow base e size v n xs)
    (A : Option Addr) (m c : Nat) (news : List Value) (hx : a.eval x = .slice A m c) (hr : Reads w size A m news) (h1 : ∀ u ∈ news, u.oneCell' = true)
    (hn : n + m ≤ 137438953472) (hbase : base ≤ w.heap.size)
    (h : ∀ v' w', w'.ownsRow base e size v' (n + m) (xs ++ news) → w.grownBy w' v.ownBlock → K (a.put o.dst v') w') :
    if Region.wanted o (yielded ops a.tmps) = true then Oper.wp P o a w K Q else E := by
  have hw : Region.wanted o (yielded ops a.tmps) = true := by simp [Region.wanted, hgd]
  rw [if_pos hw]
  exact wp_append_any w s x t ho base e z size bytes ht hinfo hzs hsz hby v n xs hs hown A m c news hx hr h1 hn hbase h
end

/-- Two rows of different element types lie in different blocks. -/
theorem own_ne {w : World} {B B' : Nat} {e e' : TypeId} {s s' : Nat} {v v' : Value} {n n' : Nat} {xs xs' : List Value} (h : w.ownsRow B e s v n xs) (h' : w.ownsRow B' e' s' v' n' xs') (hne : e ≠ e') : v.ownBlock = none ∨ v.ownBlock ≠ v'.ownBlock := by
  rcases h.2 with ⟨rfl, _⟩ | ⟨g, cap, cur, rfl, _, hg, _⟩
  · exact .inl rfl
  · right
    rcases h'.2 with ⟨rfl, _⟩ | ⟨g', cap', cur', rfl, _, hg', _⟩
    · simp [Value.ownBlock]
    · simp only [Value.ownBlock, ne_eq, Option.some.injEq]
      intro heq
      subst heq
      rw [hg] at hg'
      injection hg' with h1
      injection h1 with _ h2
      exact hne h2

/-! ### Values -/
def vcells (vs : List V) : List Value := vs.flatMap V.cells
theorem vcells_append (a b : List V) : vcells (a ++ b) = vcells a ++ vcells b := by simp [vcells]
theorem vcells_length (vs : List V) : (vcells vs).length = vs.length * 3 := by
  induction vs with
  | nil => rfl
  | cons v r ih =>
    have : vcells (v :: r) = v.cells ++ vcells r := rfl
    rw [this, List.length_append, ih]; simp [V.cells]; omega
theorem vcells_one (vs : List V) : ∀ u ∈ vcells vs, u.oneCell' = true := by
  intro u hu
  obtain ⟨v, _, hv⟩ := List.mem_flatMap.1 hu
  simp only [V.cells, List.mem_cons, List.not_mem_nil, or_false] at hv
  rcases hv with rfl | rfl | rfl <;> rfl
theorem vcells_at (vs : List V) (i : Nat) (v : V) (h : vs[i]? = some v) : (vcells vs)[i * 3]? = some (.int .i64 v.k) ∧ (vcells vs)[i * 3 + 1]? = some (.int .i64 v.n) ∧ (vcells vs)[i * 3 + 2]? = some (.string v.s) := by
  induction vs generalizing i with
  | nil => simp at h
  | cons x r ih =>
    have e : vcells (x :: r) = .int .i64 x.k :: .int .i64 x.n :: .string x.s :: vcells r := rfl
    cases i with
    | zero =>
      simp at h; subst h
      rw [e]; simp
    | succ i =>
      have := ih i (by simpa using h)
      rw [e, show (i + 1) * 3 = i * 3 + 3 by omega]
      simpa using this
theorem vcells_get (vs : List V) (j : Nat) (u : Value) (h : (vcells vs)[j]? = some u) : ∃ i v, vs[i]? = some v ∧
    ((j = i * 3 ∧ u = .int .i64 v.k) ∨ (j = i * 3 + 1 ∧ u = .int .i64 v.n) ∨ (j = i * 3 + 2 ∧ u = .string v.s)) := by
  induction vs generalizing j with
  | nil => simp [vcells] at h
  | cons x r ih =>
    have e : vcells (x :: r) = .int .i64 x.k :: .int .i64 x.n :: .string x.s :: vcells r := rfl
    rw [e] at h
    match j, h with
    | 0, h => simp at h; exact ⟨0, x, rfl, .inl ⟨rfl, h.symm⟩⟩
    | 1, h => simp at h; exact ⟨0, x, rfl, .inr (.inl ⟨rfl, h.symm⟩)⟩
    | 2, h => simp at h; exact ⟨0, x, rfl, .inr (.inr ⟨rfl, h.symm⟩)⟩
    | j + 3, h =>
      obtain ⟨i, v, hi, hh⟩ := ih j (by simpa using h)
      refine ⟨i + 1, v, by simpa using hi, ?_⟩
      rcases hh with ⟨rfl, hu⟩ | ⟨rfl, hu⟩ | ⟨rfl, hu⟩
      · exact .inl ⟨by omega, hu⟩
      · exact .inr (.inl ⟨by omega, hu⟩)
      · exact .inr (.inr ⟨by omega, hu⟩)

theorem add_lit (b o j : Nat) : (⟨b, o, none⟩ : Addr).add j = ⟨b, o + j, none⟩ := by unfold Addr.add; split <;> simp_all

theorem IsVs.reads {w : World} {a : Option Addr} {vs : List V} (h : IsVs w a vs) : Reads w 3 a vs.length (vcells vs) := by
  refine ⟨vcells_length vs, fun hn => ?_⟩
  rcases h with h | ⟨b, o, rfl, hv⟩
  · subst h; simp at hn
  · refine ⟨_, rfl, fun j u hu => ?_⟩
    obtain ⟨i, v, hi, hh⟩ := vcells_get vs j u hu
    obtain ⟨c0, c1, c2⟩ := hv i v hi
    rw [add_lit]
    rcases hh with ⟨rfl, rfl⟩ | ⟨rfl, rfl⟩ | ⟨rfl, rfl⟩
    · exact c0
    · rw [← Nat.add_assoc]; exact c1
    · rw [← Nat.add_assoc]; exact c2

theorem own_vs {w : World} {B : Nat} {e : TypeId} {a : Option Addr} {n c : Nat} {vs : List V} (h : w.ownsRow B e 3 (.slice a n c) n (vcells vs)) : IsVs w a vs := by
  obtain ⟨a', c', he, _, _, hc⟩ := own_form h
  injection he with e1 e2 e3
  subst e1
  rcases hc with h0 | ⟨b, hb, hc⟩
  · have hl := h.1
    rw [vcells_length] at hl
    exact .inl (List.eq_nil_of_length_eq_zero (by omega))
  · refine .inr ⟨b, 0, hb, fun i v hi => ?_⟩
    obtain ⟨c0, c1, c2⟩ := vcells_at vs i v hi
    exact ⟨hc _ _ (by simpa using c0), hc _ _ (by simpa using c1), hc _ _ (by simpa using c2)⟩

/-! ### Things told -/
/-- The cells xs of a row say what is told; the values lie in rows of the call's own. -/
def TRow (w : World) (B : Nat) (e : TypeId) (xs : List Value) (ts : List T) : Prop :=
  xs.length = ts.length * 2 ∧ (∀ u ∈ xs, u.oneCell' = true) ∧ ∀ i t, ts[i]? = some t → xs[i * 2]? = some (.string t.sql) ∧ ∃ v, xs[i * 2 + 1]? = some v ∧ w.ownsRow B e 3 v t.ps.length (vcells t.ps)

theorem TRow.nil_ (w : World) (B : Nat) (e : TypeId) : TRow w B e [] [] := ⟨rfl, by simp, by simp⟩
theorem TRow.kept {w w' : World} {B B' : Nat} {e e' : TypeId} {xs xs' : List Value} {ts : List T} {v : Value} {s n : Nat} (h : TRow w B e xs ts) (ho : w.ownsRow B' e' s v n xs') (hne : e ≠ e') (hg : w.grownBy w' v.ownBlock) : TRow w' B e xs ts := by
  refine ⟨h.1, h.2.1, fun i t hi => ?_⟩
  obtain ⟨h0, u, hu, hown⟩ := h.2.2 i t hi
  exact ⟨h0, u, hu, hown.kept hg (own_ne hown ho hne)⟩
theorem TRow.below {w w' : World} {B : Nat} {e : TypeId} {xs : List Value} {ts : List T} (h : TRow w B e xs ts) (hb : Below w.heap.size w w') : TRow w' B e xs ts := by
  refine ⟨h.1, h.2.1, fun i t hi => ?_⟩
  obtain ⟨h0, u, hu, hown⟩ := h.2.2 i t hi
  exact ⟨h0, u, hu, own_kept hown hb⟩
theorem TRow.push {w : World} {B : Nat} {e : TypeId} {xs : List Value} {ts : List T} (h : TRow w B e xs ts) (t : T) (v : Value) (h1 : v.oneCell' = true) (hv : w.ownsRow B e 3 v t.ps.length (vcells t.ps)) : TRow w B e (xs ++ [.string t.sql, v]) (ts ++ [t]) := by
  have hl := h.1
  refine ⟨by simp [hl]; omega, ?_, fun i t' hi => ?_⟩
  · intro u hu
    simp only [List.mem_append, List.mem_cons, List.not_mem_nil, or_false] at hu
    rcases hu with hu | rfl | rfl
    · exact h.2.1 u hu
    · rfl
    · exact h1
  · rcases Nat.lt_or_ge i ts.length with hlt | hge
    · rw [List.getElem?_append_left hlt] at hi
      obtain ⟨h0, u, hu, hown⟩ := h.2.2 i t' hi
      exact ⟨by rw [List.getElem?_append_left (by omega)]; exact h0, u, by rw [List.getElem?_append_left (by omega)]; exact hu, hown⟩
    · have hi2 : i = ts.length := by
        rcases Nat.lt_or_ge ts.length i with h3 | h3
        · rw [List.getElem?_eq_none (by simp; omega)] at hi; cases hi
        · omega
      subst hi2
      simp at hi
      subst hi
      refine ⟨by rw [List.getElem?_append_right (by omega), hl]; simp, v, by rw [List.getElem?_append_right (by omega), hl]; simp, hv⟩
theorem own_slice {w : World} {B : Nat} {e : TypeId} {s n : Nat} {v : Value} {xs : List Value} (h : w.ownsRow B e s v n xs) : v.oneCell' = true := by
  obtain ⟨a, c, rfl, _⟩ := own_form h
  rfl
theorem own_ts {w : World} {B : Nat} {e e' : TypeId} {a : Option Addr} {n c : Nat} {xs : List Value} {ts : List T} (h : w.ownsRow B e' 2 (.slice a n c) n xs) (ht : TRow w B e xs ts) : IsTs w a ts := by
  obtain ⟨a', c', he, _, _, hc⟩ := own_form h
  injection he with e1 e2 e3
  subst e1
  have hl := h.1
  have hl2 := ht.1
  rcases hc with h0 | ⟨b, hb, hc⟩
  · exact .inl (List.eq_nil_of_length_eq_zero (by omega))
  · refine .inr ⟨b, 0, hb, fun i t hi => ?_⟩
    obtain ⟨c0, v, c1, hv⟩ := ht.2.2 i t hi
    obtain ⟨pa, pc, rfl, hpc, _⟩ := own_form hv
    exact ⟨hc _ _ (by simpa using c0), pa, pc, hc _ _ (by simpa using c1), hpc, own_vs hv⟩
theorem own_len {w : World} {B : Nat} {e e' : TypeId} {v : Value} {n : Nat} {xs : List Value} {ts : List T} (h : w.ownsRow B e' 2 v n xs) (ht : TRow w B e xs ts) : n = ts.length := by
  have hl := h.1
  have hl2 := ht.1
  omega

end Go.Proofs.YtkkildkleleppaaGreatDoor
