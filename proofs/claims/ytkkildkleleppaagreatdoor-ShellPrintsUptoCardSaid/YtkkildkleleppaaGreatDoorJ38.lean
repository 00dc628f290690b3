/- Plain law: the document's reading of a literal is the program's. No program in sight. The document's words of a line: Cut, Number, Values. -/
import Derived.Test.YtkkildkleleppaaGreatDoorJ16
import Derived.Test.YtkkildkleleppaaGreatDoorJ17
import Derived.Test.YtkkildkleleppaaGreatDoorJ18
namespace Go.Proofs.YtkkildkleleppaaGreatDoor

theorem rtextL_sound : ∀ (x b : List UInt8), rtextL x = some b → dbl b = x
  | [], b, h => by cases h; rfl
  | [c], b, h => by
    simp only [rtextL] at h
    split at h
    · cases h
    · rename_i hc
      cases h
      rw [dbl_o hc]; rfl
  | c :: d :: r, b, h => by
    simp only [rtextL] at h
    split at h
    · rename_i hc
      subst hc
      split at h
      · rename_i hd
        subst hd
        cases hr : rtextL r with
        | none => rw [hr] at h; cases h
        | some y =>
          rw [hr] at h
          cases h
          rw [dbl_q, rtextL_sound r y hr]
      · cases h
    · rename_i hc
      cases hr : rtextL (d :: r) with
      | none => rw [hr] at h; cases h
      | some y =>
        rw [hr] at h
        cases h
        rw [dbl_o hc, rtextL_sound (d :: r) y hr]
set_option maxRecDepth 100000 in
theorem hexd_all : ∀ c : Fin 256, 0 ≤ xd (UInt8.ofNat c.val) → hexd (xd (UInt8.ofNat c.val)).toNat = UInt8.ofNat c.val := by decide
theorem hexd_xd {c : UInt8} (h : 0 ≤ xd c) : hexd (xd c).toNat = c := by
  have h1 := hexd_all ⟨c.toNat, c.toNat_lt⟩
  simp only [ofNat_toNat8] at h1
  exact h1 h
theorem unhex_sound : ∀ (x b : List UInt8), unhex x = some b → hexs b = x
  | [], b, h => by cases h; rfl
  | [_], b, h => by cases h
  | a :: c :: r, b, h => by
    simp only [unhex] at h
    split at h
    · cases h
    · rename_i hx
      cases hr : unhex r with
      | none => rw [hr] at h; cases h
      | some y =>
        rw [hr] at h
        cases h
        have ha := xd_bounds a
        have hc := xd_bounds c
        have h1 : 0 ≤ xd a := by omega
        have h2 : 0 ≤ xd c := by omega
        rw [hexs_cons, unhex_sound r y hr]
        have e : (UInt8.ofNat ((xd a).toNat * 16 + (xd c).toNat)).toNat = (xd a).toNat * 16 + (xd c).toNat := by
          rw [UInt8.toNat_ofNat']; omega
        rw [e]
        have e1 : ((xd a).toNat * 16 + (xd c).toNat) / 16 = (xd a).toNat := by omega
        have e2 : ((xd a).toNat * 16 + (xd c).toNat) % 16 = (xd c).toNat := by omega
        rw [e1, e2, hexd_xd h1, hexd_xd h2]
theorem ends_join {l : List UInt8} {b : UInt8} (n : Nat) (hl : n + 2 ≤ l.length) (hb : l[l.length - 1]? = some b) : l.drop (n + 1) = innerL l (n + 1) ++ [b] := by
  unfold innerL
  have h1 : l.length - 1 < l.length := by omega
  have h2 : l = l.take (l.length - 1) ++ [b] := by
    have h3 : l[l.length - 1]'h1 = b := by rw [List.getElem?_eq_getElem h1] at hb; injection hb
    have h4 : l.take (l.length - 1 + 1) = l.take (l.length - 1) ++ [l[l.length - 1]'h1] := List.take_succ_eq_append_getElem h1
    rw [h3] at h4
    rw [← h4, List.take_of_length_le (by omega)]
  have h5 : (l.take (l.length - 1)).length = l.length - 1 := by simp
  have h6 : l.drop (n + 1) = (l.take (l.length - 1) ++ [b]).drop (n + 1) := by rw [← h2]
  rw [h6, List.drop_append_of_le_length (by omega)]
theorem rread_sound {l : List UInt8} {v : V} (h : rread l = some v) : v.may = true ∧ v.lit = l := by
  unfold rread at h
  split at h
  · cases h
  · split at h
    · rename_i hn
      cases h
      exact ⟨rfl, by rw [lit_null, hn]⟩
    · split at h
      · rename_i n hn
        cases h
        exact ⟨rfl, by rw [lit_int, rnum_sound hn]⟩
      · split at h
        · cases h
        · rename_i b hb
          split at h
          · rename_i hlen
            cases h
            unfold rquo at hb
            split at hb
            · cases hb
            · rename_i hc
              have hc1 : ¬ l.length < rfrom l + 2 := fun e => hc (.inl e)
              have hc2 : l[rfrom l]? = some 39 := Classical.byContradiction fun e => hc (.inr (.inl e))
              have hc3 : l[l.length - 1]? = some 39 := Classical.byContradiction fun e => hc (.inr (.inr e))
              cases hx : rblobB l with
              | false =>
                have hf : rfrom l = 0 := by simp [rfrom, hx]
                have hk : rkind l = 2 := by simp [rkind, hx]
                rw [hf] at hc1 hc2 hb
                rw [hx] at hb
                simp only [rbytes, Bool.false_eq_true, if_false, Nat.zero_add] at hb
                have hd := rtextL_sound _ _ hb
                rw [hk]
                refine ⟨may_text (by simpa using hlen), ?_⟩
                rw [lit_text (by simpa using hlen), quoted]
                have h0 : l = l[0]'(by omega) :: l.drop 1 := by
                  have := List.drop_eq_getElem_cons (l := l) (i := 0) (by omega)
                  simpa using this
                have h1 : l[0]'(by omega) = 39 := by rw [List.getElem?_eq_getElem (by omega)] at hc2; injection hc2
                have h2 := ends_join (b := 39) 0 (by omega) hc3
                rw [Nat.zero_add] at h2
                rw [h1, h2, ← hd] at h0
                rw [h0]
              | true =>
                have hf : rfrom l = 1 := by simp [rfrom, hx]
                have hk : rkind l = 3 := by simp [rkind, hx]
                rw [hf] at hc1 hc2 hb
                rw [hx] at hb
                simp only [rbytes, if_true] at hb
                rw [rhexL_unhex] at hb
                have hd := unhex_sound _ _ hb
                rw [hk]
                refine ⟨may_blob (by simpa using hlen), ?_⟩
                rw [lit_blob (by simpa using hlen), blobbed]
                have hx0 : l[0]? = some 120 := by simpa [rblobB] using hx
                have h0 : l = l[0]'(by omega) :: l.drop 1 := by
                  have := List.drop_eq_getElem_cons (l := l) (i := 0) (by omega)
                  simpa using this
                have h01 : l.drop 1 = l[1]'(by omega) :: l.drop 2 := List.drop_eq_getElem_cons (by omega)
                have h1 : l[0]'(by omega) = 120 := by rw [List.getElem?_eq_getElem (by omega)] at hx0; injection hx0
                have h2 : l[1]'(by omega) = 39 := by rw [List.getElem?_eq_getElem (by omega)] at hc2; injection hc2
                have h3 := ends_join (b := 39) 1 (by omega) hc3
                rw [h1, h01, h2, h3, ← hd] at h0
                rw [h0]
          · cases h
/-- The two readings of a literal are one. -/
theorem rread_readV (l : List UInt8) : rread l = readV l := by
  cases hv : readV l with
  | some v =>
    obtain ⟨h1, h2, h3⟩ := readV_sound hv
    rw [← h3]
    exact rread_lit h1 h2
  | none =>
    cases hr : rread l with
    | none => rfl
    | some v =>
      obtain ⟨h1, h2⟩ := rread_sound hr
      have := readV_lit h1 (rread_fit hr)
      rw [h2, hv] at this
      cases this
end Go.Proofs.YtkkildkleleppaaGreatDoor
namespace Go.Proofs.YtkkildkleleppaaGreatDoor
open Go.RowKit

/-- The look for the blank: what has been passed. -/
def CY (p : Bool) (l : List UInt8) (q : Bool) (k : Nat) : Prop := cutX p false l = (l.take k ++ (cutX p q (l.drop k)).1, (cutX p q (l.drop k)).2)
theorem CY.start (p : Bool) (l : List UInt8) : CY p l false 0 := by simp [CY]
section
variable {p q : Bool} {l : List UInt8} {k : Nat}
theorem CY.go (h : CY p l q k) (hk : k < l.length) (hc : ¬ (l[k] = 32 ∧ togP p q l[k] = false)) : CY p l (togP p q l[k]) (k + 1) := by
  unfold CY at *
  have e : cutX p q (l.drop k) = (l[k] :: (cutX p (togP p q l[k]) (l.drop (k + 1))).1, (cutX p (togP p q l[k]) (l.drop (k + 1))).2) := by
    rw [List.drop_eq_getElem_cons hk, cutX, if_neg hc]
  rw [h, e, List.take_succ_eq_append_getElem hk]
  simp only [List.append_assoc, List.singleton_append]
theorem CY.stop (h : CY p l q k) (hk : k < l.length) (hc : l[k] = 32 ∧ togP p q l[k] = false) : cutX p false l = (l.take k, l.drop (k + 1), true) := by
  unfold CY at h
  have e : cutX p q (l.drop k) = ([], l.drop (k + 1), true) := by rw [List.drop_eq_getElem_cons hk, cutX, if_pos hc]
  rw [h, e]
  simp
theorem CY.done (h : CY p l q l.length) : cutX p false l = (l, [], false) := by
  unfold CY at h
  rw [h, List.drop_length, List.take_length]
  simp [cutX]
end

def CutE (p : Bool) (l : List UInt8) (w : World) (e : Ending) (w' : World) : Prop :=
  Ret w (.tuple #[.string ⟨(cutX p false l).1.toArray⟩, .string ⟨(cutX p false l).2.1.toArray⟩, .bool (cutX p false l).2.2]) e w'

set_option maxRecDepth 100000 in
set_option maxHeartbeats 2000000 in
theorem rcut_any (S : ByteArray) (p : Bool) (hs : S.size ≤ 100000000) (w : World) : Calls Tryz.prog 45 #[.string S, .bool p] w (CutE p S.data.toList w) := by
  have H0 := Lib.hid (CY.start p S.data.toList)
  go_enter Tryz.func45, Tryz.ntmps45
  go_wp2
  go_loopw [7, 8] (fun iq i wr => ∃ (k : Nat) (q : Bool), k ≤ S.size ∧ i = .int .i64 k ∧ iq = .bool q ∧ wr = w ∧ Hid (CY p S.data.toList q k)) (fun _ i _ => S.size - (intOf i).toNat)
  case atStart => exact ⟨0, false, by omega, rfl, rfl, rfl, H0⟩
  case round =>
    obtain ⟨k, q, hk, rfl, rfl, rfl, HX⟩ := hrel
    by_cases hlt : k < S.size
    · have hkl : k < S.data.toList.length := hlt
      have hg : S.data.toList[k] = S[k] := rfl
      have i0 : (0 : Int) ≤ (k : Int) := Int.natCast_nonneg _
      have i1 : (k : Int) < (S.size : Int) := by omega
      have i2 : (k : Int) ≤ (S.size : Int) := by omega
      have g0 : IntKind.i64.wrap ((k : Int) + 1) = (k : Int) + 1 := IntWalk.i64_in _ (by omega)
      have g1 : (k : Int) + 1 ≤ (S.size : Int) := by omega
      have g2 : ((k : Int) + 1).toNat = k + 1 := by omega
      by_cases h39 : S[k] = 39
      · have a1 : ((S[k].toNat : Int) == 39) = true := u8_eq h39
        have a2 : ((S[k].toNat : Int) == 32) = false := by rw [h39]; decide
        cases p with
        | true =>
          have HX1 : Hid (CY true S.data.toList q (k + 1)) := by
            have h := HX.out.go hkl (by rw [hg, h39]; rintro ⟨h, -⟩; exact absurd h (by decide))
            exact Lib.hid h
          clear h39 hg g0 g1 g2
          go_wp2_with fail
          go_roundw
          case rel => exact ⟨k + 1, q, by omega, by go_num, rfl, (by first | trivial | rfl), HX1⟩
          case measure => simp [intOf]; omega
        | false =>
          have HX1 : Hid (CY false S.data.toList (!q) (k + 1)) := by
            have h := HX.out.go hkl (by rw [hg, h39]; rintro ⟨h, -⟩; exact absurd h (by decide))
            rw [hg, h39] at h
            exact Lib.hid h
          clear h39 hg g0 g1 g2
          go_wp2_with fail
          go_roundw
          case rel => exact ⟨k + 1, !q, by omega, by go_num, rfl, (by first | trivial | rfl), HX1⟩
          case measure => simp [intOf]; omega
      · have a1 : ((S[k].toNat : Int) == 39) = false := u8_ne h39
        have htq : togP p q S[k] = q := by cases p <;> simp [togP, tog, h39]
        by_cases h32 : S[k] = 32
        · have a2 : ((S[k].toNat : Int) == 32) = true := u8_eq h32
          cases q with
          | true =>
            have HX1 : Hid (CY p S.data.toList true (k + 1)) := by
              have h := HX.out.go hkl (by rw [hg, htq]; rintro ⟨-, h⟩; cases h)
              rw [hg, htq] at h
              exact Lib.hid h
            clear h39 h32 htq hg g0 g1 g2
            go_wp2_with fail
            go_roundw
            case rel => exact ⟨k + 1, true, by omega, by go_num, rfl, (by first | trivial | rfl), HX1⟩
            case measure => simp [intOf]; omega
          | false =>
            have HC : Hid (cutX p false S.data.toList = ((S.extract 0 k).data.toList, (S.extract (k + 1) S.size).data.toList, true)) := Lib.hid (by
              rw [extract_list, extract_list, take_all, List.drop_zero]
              exact HX.out.stop hkl ⟨h32, by rw [hg, htq]⟩)
            clear h39 h32 htq hg
            go_wp2_with fail
            go_quiet (fail)
            go_wp2_with fail
            go_ret3
            unfold CutE
            rw [HC.out]
            exact ⟨by rw [arr_self, arr_self]; rfl, below_drewN (Below.refl _ _) _⟩
        · have a2 : ((S[k].toNat : Int) == 32) = false := u8_ne h32
          have HX1 : Hid (CY p S.data.toList q (k + 1)) := by
            have h := HX.out.go hkl (by rw [hg]; rintro ⟨h, -⟩; exact h32 h)
            rw [hg, htq] at h
            exact Lib.hid h
          clear h39 h32 htq hg g0 g1 g2
          go_wp2_with fail
          go_roundw
          case rel => exact ⟨k + 1, q, by omega, by go_num, rfl, (by first | trivial | rfl), HX1⟩
          case measure => simp [intOf]; omega
    · have hkn : k = S.size := by omega
      have HC : Hid (cutX p false S.data.toList = (S.data.toList, [], false)) := Lib.hid (by
        have h := HX.out
        rw [hkn] at h
        exact h.done)
      have i1 : ¬ (k : Int) < (S.size : Int) := by omega
      clear hkn
      go_wp2_with fail
      go_ret3
      unfold CutE
      rw [HC.out]
      exact ⟨by rw [arr_self]; rfl, Below.refl _ _⟩

/-- The number of a word. -/
theorem rnumber_any (S : ByteArray) (hs : S.size ≤ 100000000) (w : World) : Calls Tryz.prog 103 #[.string S] w (Ret w (.tuple #[.int .i64 ((numO S.data.toList).getD 0), .bool (numO S.data.toList).isSome])) := by
  have hN := fun w' => Number_any S hs w'
  unfold RNum at hN
  cases hr : rnum S.data.toList with
  | none =>
    have HX : Hid (numO S.data.toList = none) := Lib.hid (by simp [numO, hr])
    rw [hr] at hN
    have HN := Lib.hid hN
    clear hN hr
    go_enter Tryz.func103, Tryz.ntmps103
    go_wp2_with (go_at_call 124; refine (HN.out _).mono ?_; rintro e w1 ⟨rfl, rfl⟩)
    go_ret2
    rw [HX.out]
    exact ⟨rfl, Below.refl _ _⟩
  | some n =>
    rw [hr] at hN
    have HN := Lib.hid hN
    by_cases h0 : n < 0
    · have HX : Hid (numO S.data.toList = none) := Lib.hid (by simp [numO, hr]; omega)
      clear hN hr
      go_enter Tryz.func103, Tryz.ntmps103
      go_wp2_with (go_at_call 124; refine (HN.out _).mono ?_; rintro e w1 ⟨rfl, rfl⟩)
      go_ret2
      rw [HX.out]
      exact ⟨rfl, Below.refl _ _⟩
    · by_cases h1 : 999999999 < n
      · have HX : Hid (numO S.data.toList = none) := Lib.hid (by simp [numO, hr]; omega)
        clear hN hr
        go_enter Tryz.func103, Tryz.ntmps103
        go_wp2_with (go_at_call 124; refine (HN.out _).mono ?_; rintro e w1 ⟨rfl, rfl⟩)
        go_ret2
        rw [HX.out]
        exact ⟨rfl, Below.refl _ _⟩
      · have HX : Hid (numO S.data.toList = some n) := Lib.hid (by simp [numO, hr]; omega)
        clear hN hr
        go_enter Tryz.func103, Tryz.ntmps103
        go_wp2_with (go_at_call 124; refine (HN.out _).mono ?_; rintro e w1 ⟨rfl, rfl⟩)
        go_ret2
        rw [HX.out]
        exact ⟨rfl, Below.refl _ _⟩
end Go.Proofs.YtkkildkleleppaaGreatDoor
