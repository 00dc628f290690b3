/- Plain: the shell's commands: how a line is read, how a command is written. No program in sight. Plain law: a line that is read as a command is that command's line. No program in sight. -/
import Derived.Test.YtkkildkleleppaaGreatDoorJ13
import Derived.Test.YtkkildkleleppaaGreatDoorJ14
import Derived.Test.YtkkildkleleppaaGreatDoorJ15
import Derived.Test.YtkkildkleleppaaGreatDoorJ12
namespace Go.Proofs.YtkkildkleleppaaGreatDoor

/-- A command, as data. -/
structure C where
  k : Int
  ak : Int
  ek : Int
  ec : Int
  es : Int
  sql : ByteArray
  ps : List V
  n : Int
  log : Bool
  ch : List Int
  conn : Int
  told : List T
def C.zero : C := ⟨0, 0, 0, 0, 0, ByteArray.empty, [], 0, false, [], 0, []⟩
def C.event (ek ec es : Int) (sql : ByteArray) (ps : List V) : C := ⟨1, 1, ek, ec, es, sql, ps, 0, false, [], 0, []⟩
def C.act (ak n : Int) (log : Bool) (ch : List Int) : C := ⟨1, ak, 0, 0, 0, ByteArray.empty, [], n, log, ch, 0, []⟩
def C.of (k conn : Int) (told : List T) : C := ⟨k, 0, 0, 0, 0, ByteArray.empty, [], 0, false, [], conn, told⟩

/-! ### Words -/
def togP (p q : Bool) (c : UInt8) : Bool := if p then q else tog q c
/-- A text up to its first blank that stands not within quotes (p: of which none is looked at), and behind it. -/
def cutX (p : Bool) : Bool → List UInt8 → List UInt8 × List UInt8 × Bool
  | _, [] => ([], [], false)
  | q, c :: r => if c = 32 ∧ togP p q c = false then ([], r, true) else (c :: (cutX p (togP p q c) r).1, (cutX p (togP p q c) r).2)
/-- The pieces between the commas that stand not within quotes. -/
def splitC : Bool → List UInt8 → List UInt8 → List (List UInt8)
  | _, acc, [] => [acc]
  | q, acc, c :: r => if c = 44 ∧ tog q c = false then acc :: splitC (tog q c) [] r else splitC (tog q c) (acc ++ [c]) r
/-- The number of a word. -/
def numO (w : List UInt8) : Option Int :=
  match rnum w with
  | some n => if 0 ≤ n ∧ n ≤ 999999999 then some n else none
  | none => none
def readVs : List (List UInt8) → Option (List V)
  | [] => some []
  | l :: ls => match readV l with | none => none | some v => (readVs ls).map (v :: ·)

/-- A reader's rest; did a blank stand ahead of it? -/
abbrev St := List UInt8 × Bool
def wordS (s : St) : Option (List UInt8 × St) := if s.2 then some ((cutX true false s.1).1, (cutX true false s.1).2) else none
def numS (s : St) : Option (Int × St) :=
  match wordS s with
  | none => none
  | some x => (numO x.1).map fun n => (n, x.2)
def allS (s : St) : Option (List UInt8 × St) := if s.2 then some (s.1, (s.1, false)) else none
def valsS (s : St) : Option (List V × St) := if s.2 then (readVs (splitC false [] (cutX false false s.1).1)).map fun vs => (vs, (cutX false false s.1).2) else none

/-! ### Verbs -/
def verbW : Nat → List UInt8
  | 0 => [111, 112, 101, 110]
  | 1 => [99, 108, 111, 115, 101]
  | 2 => [101, 120, 101, 99]
  | 3 => [99, 97, 108, 108]
  | 4 => [112, 114, 101, 112, 97, 114, 101]
  | 5 => [98, 105, 110, 100]
  | 6 => [115, 116, 101, 112]
  | 7 => [114, 101, 115, 101, 116]
  | 8 => [102, 105, 110, 97, 108, 105, 122, 101]
  | 9 => [99, 104, 101, 99, 107, 112, 111, 105, 110, 116]
  | 10 => [99, 114, 97, 115, 104]
  | 11 => [99, 114, 97, 115, 104, 105, 110]
  | 12 => [114, 111, 111, 109]
  | 13 => [114, 101, 115, 116, 97, 114, 116]
  | 14 => [99, 111, 110, 116, 101, 110, 116]
  | 15 => [108, 97, 115, 116]
  | _ => [108, 111, 97, 100]
def verbNo (w : List UInt8) : Option Nat := (List.range 17).find? fun i => verbW i == w
def evKind : Nat → Int
  | 0 => 1
  | 1 => 2
  | 2 => 3
  | 3 => 3
  | 4 => 4
  | 5 => 5
  | 6 => 6
  | 7 => 7
  | _ => 8
def evSlot (i : Nat) : Bool := decide (4 ≤ i)
def evTail : Nat → Nat
  | 2 => 1
  | 3 => 2
  | 4 => 1
  | 5 => 3
  | _ => 0

/-- What follows an event's numbers. 1: a text; 2: values and a text; 3: values, or nothing. -/
def tailR (t : Nat) (s : St) : Option ((ByteArray × List V) × St) :=
  match t with
  | 0 => some ((ByteArray.empty, []), s)
  | 1 => (allS s).map fun x => ((⟨x.1.toArray⟩, []), x.2)
  | 2 => match valsS s with
    | none => none
    | some y => (allS y.2).map fun x => ((⟨x.1.toArray⟩, y.1), x.2)
  | _ => if s.2 then (valsS s).map fun y => ((ByteArray.empty, y.1), y.2) else some ((ByteArray.empty, []), s)
def slotR (b : Bool) (s : St) : Option (Int × St) := if b then numS s else some (0, s)
def eventR (ek : Int) (b : Bool) (t : Nat) (s : St) : Option (C × Bool) :=
  match numS s with
  | none => none
  | some x => match slotR b x.2 with
    | none => none
    | some y => (tailR t y.2).map fun z => (C.event ek x.1 y.1 z.1.1 z.1.2, z.2.2)
def choicesR : Nat → St → Option (List Int)
  | 0, _ => none
  | n + 1, s => if s.2 then (match numS s with | none => none | some x => (choicesR n x.2).map (x.1 :: ·)) else some []
def logW : List UInt8 := [108, 111, 103]
def journalW : List UInt8 := [106, 111, 117, 114, 110, 97, 108]
def restartR (s : St) : Option (C × Bool) :=
  match wordS s with
  | none => none
  | some x => if x.1 = logW ∨ x.1 = journalW then (choicesR (x.2.1.length + 2) x.2).map fun l => (C.act 5 0 (decide (x.1 = logW)) l, false) else none
def loadR (s : St) : Except Int (C × Bool) :=
  match numS s with
  | none => .error 421
  | some x => match allS x.2 with
    | none => .error 421
    | some y => match readS (y.1.length + 1) y.1 0 with
      | .error _ => .error 410
      | .ok ts => .ok (C.of 4 x.1 ts, false)
def countR (ak : Int) (s : St) : Option (C × Bool) := (numS s).map fun x => (C.act ak x.1 false [], x.2.2)
def words {α : Type} : Option α → Except Int α
  | none => .error 421
  | some x => .ok x
/-- What verb i reads. -/
def verbR (i : Nat) (s : St) : Except Int (C × Bool) :=
  match i with
  | 9 => .ok (C.event 9 0 0 ByteArray.empty [], s.2)
  | 10 => .ok (C.act 3 0 false [], s.2)
  | 11 => words (countR 2 s)
  | 12 => words (countR 4 s)
  | 13 => words (restartR s)
  | 14 => .ok (C.of 2 0 [], s.2)
  | 15 => .ok (C.of 3 0 [], s.2)
  | 16 => loadR s
  | i => words (eventR (evKind i) (evSlot i) (evTail i) s)
/-- The command of a line, or the error. -/
def parseS (l : List UInt8) : Except Int C :=
  match verbNo (cutX true false l).1 with
  | none => .error 420
  | some i => match verbR i (cutX true false l).2 with
    | .error e => .error e
    | .ok x => if x.2 then .error 421 else .ok x.1

/-! ### Lines -/
def tailW (t : Nat) (c : C) : List UInt8 :=
  match t with
  | 0 => []
  | 1 => 32 :: c.sql.data.toList
  | 2 => 32 :: (litsT c.ps ++ 32 :: c.sql.data.toList)
  | _ => if c.ps = [] then [] else 32 :: litsT c.ps
def slotW (b : Bool) (c : C) : List UInt8 := if b then numT c.es else []
def eventW (ek : Int) (b : Bool) (t : Nat) (c : C) : List UInt8 × Bool := (numT c.ec ++ slotW b c ++ tailW t c, decide (c.k = 1) && decide (c.ak = 1) && decide (c.ek = ek))
def plainW (k ak ek : Int) (c : C) : List UInt8 × Bool := ([], decide (c.k = k) && decide (c.ak = ak) && decide (c.ek = ek))
def countW (ak : Int) (c : C) : List UInt8 × Bool := (numT c.n, decide (c.k = 1) && decide (c.ak = ak))
def chT (l : List Int) : List UInt8 := l.flatMap numT
def restartW (c : C) : List UInt8 × Bool := (32 :: (if c.log then logW else journalW) ++ chT c.ch, decide (c.k = 1) && decide (c.ak = 5))
def loadW (c : C) : List UInt8 × Bool := (numT c.conn ++ 32 :: textS c.told, decide (c.k = 4) && decide (textE c.told = 0))
/-- How verb i writes a command; is it one of its? -/
def verbT (i : Nat) (c : C) : List UInt8 × Bool :=
  match i with
  | 9 => plainW 1 1 9 c
  | 10 => plainW 1 3 0 c
  | 11 => countW 2 c
  | 12 => countW 4 c
  | 13 => restartW c
  | 14 => plainW 2 0 0 c
  | 15 => plainW 3 0 0 c
  | 16 => loadW c
  | i => eventW (evKind i) (evSlot i) (evTail i) c

def sameIs (a b : List Int) : Bool := decide (a = b)
/-- Are two commands the same, part by part? -/
def sameC (a b : C) : Bool :=
  a.k == b.k && a.conn == b.conn && a.ak == b.ak && a.n == b.n && a.log == b.log && sameIs a.ch b.ch && sameTs a.told b.told &&
    (a.ek == b.ek && a.ec == b.ec && a.es == b.es && a.sql.data.toList == b.sql.data.toList && sameVs a.ps b.ps)
/-- Is the line read as the command? -/
def readAs (c : C) (l : List UInt8) : Bool := match parseS l with | .error _ => false | .ok d => sameC c d

/-! ### The document's line -/
def wordOf (c : C) : List UInt8 :=
  if c.ek = 1 then verbW 0 else if c.ek = 2 then verbW 1 else if c.ek = 3 then (if c.ps = [] then verbW 2 else verbW 3) else if c.ek = 4 then verbW 4 else if c.ek = 5 then verbW 5
  else if c.ek = 6 then verbW 6 else if c.ek = 7 then verbW 7 else if c.ek = 8 then verbW 8 else verbW 9
def slotK (k : Int) : Bool := decide (k = 4 ∨ k = 5 ∨ k = 6 ∨ k = 7 ∨ k = 8)
def lineE (c : C) : List UInt8 :=
  if c.ek = 9 then wordOf c else
  wordOf c ++ numT c.ec ++ (if slotK c.ek then numT c.es else []) ++ (if c.ps ≠ [] ∧ (c.ek = 3 ∨ c.ek = 5) then 32 :: litsT c.ps else []) ++ (if c.ek = 3 ∨ c.ek = 4 then 32 :: c.sql.data.toList else [])
def lineA (c : C) : List UInt8 :=
  if c.ak = 1 then lineE c else if c.ak = 3 then verbW 10 else if c.ak = 2 then verbW 11 ++ numT c.n else if c.ak = 4 then verbW 12 ++ numT c.n
  else verbW 13 ++ 32 :: (if c.log then logW else journalW) ++ chT c.ch
/-- The line that a command would have. -/
def lineS (c : C) : List UInt8 :=
  if c.k = 2 then verbW 14 else if c.k = 3 then verbW 15 else if c.k = 4 then verbW 16 ++ numT c.conn ++ 32 :: textS c.told else lineA c
/-- A command's line, and the error. -/
def printS (c : C) : List UInt8 × Int := if readAs c (lineS c) then (lineS c, 0) else ([], 2)
/-- The shell's way: the first verb whose line is read as the command. -/
def tryV (c : C) (i : Nat) : Bool := (verbT i c).2 && readAs c (verbW i ++ (verbT i c).1)
def printV (c : C) : List UInt8 × Int := match (List.range 17).find? (tryV c) with | none => ([], 2) | some i => (verbW i ++ (verbT i c).1, 0)
end Go.Proofs.YtkkildkleleppaaGreatDoor
namespace Go.Proofs.YtkkildkleleppaaGreatDoor

/-! ### Numbers -/
open Go.Lib in
theorem decDigits_snoc (u d : Nat) (hu : 0 < u) (hd : d < 10) : decDigits (u * 10 + d) = decDigits u ++ [UInt8.ofNat (48 + d)] := by
  rw [decDigits, dif_neg (by omega)]
  have e1 : (u * 10 + d) / 10 = u := by omega
  have e2 : (u * 10 + d) % 10 = d := by omega
  rw [e1, e2]
theorem digit_back {c : UInt8} (h : ¬ (c.toNat < 48 ∨ 57 < c.toNat)) : UInt8.ofNat (48 + (c.toNat - 48)) = c := by
  rw [show 48 + (c.toNat - 48) = c.toNat by omega]; simp
theorem numGo_one {neg : Bool} {a n : Int} {c : UInt8} {r : List UInt8} (h : numGo neg a (c :: r) = some n) : ¬ (c.toNat < 48 ∨ 57 < c.toNat) ∧ numGo neg (if neg then a * 10 - ((c.toNat : Int) - 48) else a * 10 + ((c.toNat : Int) - 48)) r = some n := by
  simp only [numGo, stepN] at h
  by_cases hc : c.toNat < 48 ∨ 57 < c.toNat
  · rw [if_pos hc] at h; cases h
  · rw [if_neg hc] at h
    refine ⟨hc, ?_⟩
    split at h
    · cases h
    · rename_i m heq
      split at heq
      · cases heq
      · injection heq with heq
        rw [heq]; exact h
open Go.Lib in
theorem numGo_sound (neg : Bool) : ∀ (r : List UInt8) (u : Nat) (n : Int), 0 < u → numGo neg (if neg then -(u : Int) else u) r = some n → ∃ v : Nat, n = (if neg then -(v : Int) else v) ∧ 0 < v ∧ decDigits v = decDigits u ++ r
  | [], u, n, hu, h => by
    simp only [numGo, Option.some.injEq] at h
    exact ⟨u, h.symm, hu, by simp⟩
  | c :: r, u, n, hu, h => by
    obtain ⟨hc, h⟩ := numGo_one h
    have e : (if neg = true then (if neg = true then -(u : Int) else (u : Int)) * 10 - ((c.toNat : Int) - 48) else (if neg = true then -(u : Int) else (u : Int)) * 10 + ((c.toNat : Int) - 48)) = if neg = true then -((u * 10 + (c.toNat - 48) : Nat) : Int) else ((u * 10 + (c.toNat - 48) : Nat) : Int) := by
      cases neg
      · simp only [Bool.false_eq_true, if_false]; omega
      · simp only [if_true]; omega
    rw [e] at h
    obtain ⟨v, h1, h2, h3⟩ := numGo_sound neg r _ n (by omega) h
    refine ⟨v, h1, h2, ?_⟩
    rw [h3, decDigits_snoc u _ hu (by omega), digit_back hc]
    simp
open Go.Lib in
theorem numGo_first {neg : Bool} {d : UInt8} {r : List UInt8} {n : Int} (hd : d ≠ 48) (h : numGo neg 0 (d :: r) = some n) : ∃ v : Nat, n = (if neg then -(v : Int) else v) ∧ 0 < v ∧ decDigits v = d :: r := by
  obtain ⟨hc, h⟩ := numGo_one h
  have hd2 : d.toNat ≠ 48 := by intro e; exact hd (UInt8.toNat_inj.1 e)
  have e : (if neg = true then (0 : Int) * 10 - ((d.toNat : Int) - 48) else 0 * 10 + ((d.toNat : Int) - 48)) = if neg = true then -((d.toNat - 48 : Nat) : Int) else ((d.toNat - 48 : Nat) : Int) := by
    cases neg
    · simp only [Bool.false_eq_true, if_false]; omega
    · simp only [if_true]; omega
  rw [e] at h
  obtain ⟨v, h1, h2, h3⟩ := numGo_sound neg r _ n (by omega) h
  refine ⟨v, h1, h2, ?_⟩
  rw [h3, decDigits_one (by omega), digit_back hc]
  rfl
open Go.Lib in
theorem rnum_sound {l : List UInt8} {n : Int} (h : rnum l = some n) : itoa n = l := by
  unfold rnum at h
  split at h
  · cases h
  · rename_i hc
    cases l with
    | nil => exact absurd (.inl rfl) hc
    | cons c r =>
      by_cases hneg : c = 45
      · subst hneg
        have hn : negL (45 :: r) = true := rfl
        have hat : numAt (45 :: r) = 1 := by simp [numAt, hn]
        rw [hat] at hc h
        rw [hn] at h
        simp only [List.drop_succ_cons, List.drop_zero] at h
        cases r with
        | nil => exact absurd (.inl rfl) hc
        | cons d r =>
          obtain ⟨v, h1, h2, h3⟩ := numGo_first (by intro e; exact hc (.inr ⟨by simp [e], by simp⟩)) h
          simp only [if_true] at h1
          subst h1
          rw [itoa_neg v (by omega), h3]
      · have hn : negL (c :: r) = false := by simp [negL, hneg]
        have hat : numAt (c :: r) = 0 := by simp [numAt, hn]
        rw [hat] at hc h
        rw [hn, List.drop_zero] at h
        by_cases h48 : c = 48
        · subst h48
          cases r with
          | nil =>
            obtain ⟨-, h⟩ := numGo_one h
            simp only [numGo, Option.some.injEq] at h
            subst h
            exact (itoa_nonneg 0).trans (decDigits_one (by decide))
          | cons d r => exact absurd (.inr ⟨by simp, by simp⟩) hc
        · obtain ⟨v, h1, h2, h3⟩ := numGo_first h48 h
          simp only [Bool.false_eq_true, if_false] at h1
          subst h1
          rw [itoa_nonneg, h3]
theorem numO_sound {w : List UInt8} {n : Int} (h : numO w = some n) : Lib.itoa n = w ∧ 0 ≤ n ∧ n ≤ 999999999 := by
  unfold numO at h
  split at h
  · rename_i m hm
    split at h
    · rename_i hb
      cases h
      exact ⟨rnum_sound hm, hb⟩
    · cases h
  · cases h
theorem numO_itoa {n : Int} (h0 : 0 ≤ n) (h1 : n ≤ 999999999) : numO (Lib.itoa n) = some n := by
  unfold numO
  rw [rnum_itoa n (by omega) (by omega)]
  simp only
  rw [if_pos ⟨h0, h1⟩]

/-! ### The reader's words -/
def joinS (s : St) : List UInt8 := if s.2 then 32 :: s.1 else []
theorem joinS_off {s : St} (h : s.2 = false) : joinS s = [] := by simp [joinS, h]
theorem joinS_on {s : St} (h : s.2 = true) : joinS s = 32 :: s.1 := by simp [joinS, h]
theorem cutX_join (p : Bool) : ∀ (l : List UInt8) (q : Bool), (cutX p q l).1 ++ joinS (cutX p q l).2 = l
  | [], q => rfl
  | c :: r, q => by
    simp only [cutX]
    split
    · rename_i h
      simp [joinS, h.1]
    · exact congrArg (c :: ·) (cutX_join p r _)
theorem word_join {s s' : St} {w : List UInt8} (h : wordS s = some (w, s')) : joinS s = 32 :: (w ++ joinS s') := by
  unfold wordS at h
  split at h
  · rename_i hs
    injection h with h
    injection h with h1 h2
    subst h1 h2
    rw [joinS_on hs, cutX_join]
  · cases h
theorem num_join {s s' : St} {n : Int} (h : numS s = some (n, s')) : joinS s = numT n ++ joinS s' ∧ 0 ≤ n ∧ n ≤ 999999999 := by
  unfold numS at h
  split at h
  · cases h
  · rename_i x hx
    cases hn : numO x.1 with
    | none => rw [hn] at h; cases h
    | some m =>
      rw [hn] at h
      simp only [Option.map_some, Option.some.injEq, Prod.mk.injEq] at h
      obtain ⟨rfl, rfl⟩ := h
      obtain ⟨h1, h2⟩ := numO_sound hn
      refine ⟨?_, h2⟩
      rw [word_join (w := x.1) (s' := x.2) hx, numT, h1]
      rfl
theorem all_join {s s' : St} {x : List UInt8} (h : allS s = some (x, s')) : joinS s = 32 :: x ∧ s'.2 = false := by
  unfold allS at h
  split at h
  · rename_i hs
    injection h with h
    injection h with h1 h2
    subst h1 h2
    exact ⟨joinS_on hs, rfl⟩
  · cases h

/-! ### Values -/
def commas : List (List UInt8) → List UInt8
  | [] => []
  | p :: ps => p ++ ps.flatMap fun x => 44 :: x
theorem commas_cons {ps : List (List UInt8)} (h : ps ≠ []) : (ps.flatMap fun x => 44 :: x) = 44 :: commas ps := by
  cases ps with
  | nil => exact absurd rfl h
  | cons p ps => simp [commas]
theorem splitC_ne (q : Bool) (acc l : List UInt8) : splitC q acc l ≠ [] := by
  induction l generalizing q acc with
  | nil => simp [splitC]
  | cons c r ih =>
    simp only [splitC]
    split
    · simp
    · exact ih _ _
theorem splitC_join : ∀ (l : List UInt8) (q : Bool) (acc : List UInt8), commas (splitC q acc l) = acc ++ l
  | [], q, acc => by simp [splitC, commas]
  | c :: r, q, acc => by
    simp only [splitC]
    split
    · rename_i h
      rw [commas, commas_cons (splitC_ne _ _ _), splitC_join r, h.1]
      rfl
    · rw [splitC_join r]; simp
theorem splitC_mem : ∀ (l : List UInt8) (q : Bool) (acc x : List UInt8), x ∈ splitC q acc l → x.length ≤ acc.length + l.length
  | [], q, acc, x, h => by
    simp only [splitC, List.mem_cons, List.not_mem_nil, or_false] at h
    subst h; simp
  | c :: r, q, acc, x, h => by
    simp only [splitC] at h
    split at h
    · rcases List.mem_cons.1 h with rfl | h
      · simp
      · have := splitC_mem r _ _ _ h
        simp at this ⊢; omega
    · have := splitC_mem r _ _ _ h
      simp at this ⊢; omega
theorem readVs_sound : ∀ (ls : List (List UInt8)) (vs : List V), readVs ls = some vs → vs.map V.lit = ls ∧ (∀ v ∈ vs, v.fit) ∧ (∀ v ∈ vs, v.may = true)
  | [], vs, h => by cases h; simp
  | l :: ls, vs, h => by
    rw [readVs] at h
    cases hr : readV l with
    | none => rw [hr] at h; cases h
    | some v =>
      rw [hr] at h
      cases ha : readVs ls with
      | none => rw [ha] at h; cases h
      | some us =>
        rw [ha] at h
        cases h
        obtain ⟨h1, h2, h3⟩ := readV_sound hr
        obtain ⟨i1, i2, i3⟩ := readVs_sound ls us ha
        refine ⟨by rw [List.map_cons, h3, i1], ?_, ?_⟩
        · intro u hu
          rcases List.mem_cons.1 hu with rfl | hu
          · exact h2
          · exact i2 u hu
        · intro u hu
          rcases List.mem_cons.1 hu with rfl | hu
          · exact h1
          · exact i3 u hu
theorem litsT_commas (vs : List V) : litsT vs = commas (vs.map V.lit) := by
  cases vs with
  | nil => rfl
  | cons v r =>
    simp only [litsT, commas, paramsT, List.map_cons]
    congr 1
    induction r with
    | nil => rfl
    | cons u r ih => simp only [List.flatMap_cons, List.map_cons, ih]
theorem vals_join {s s' : St} {vs : List V} (h : valsS s = some (vs, s')) : joinS s = 32 :: (litsT vs ++ joinS s') ∧ vs ≠ [] ∧ (∀ v ∈ vs, v.fit) := by
  unfold valsS at h
  split at h
  · rename_i hs
    cases hr : readVs (splitC false [] (cutX false false s.1).1) with
    | none => rw [hr] at h; cases h
    | some us =>
      rw [hr] at h
      simp only [Option.map_some, Option.some.injEq, Prod.mk.injEq] at h
      obtain ⟨rfl, rfl⟩ := h
      obtain ⟨h1, h2, -⟩ := readVs_sound _ _ hr
      refine ⟨?_, ?_, h2⟩
      · rw [litsT_commas, h1, splitC_join, joinS_on hs, List.nil_append, cutX_join]
      · intro e
        subst e
        exact splitC_ne _ _ _ h1.symm
  · cases h

/-! ### Verbs -/
theorem tail_join {t : Nat} {s s' : St} {z : ByteArray × List V} (h : tailR t s = some (z, s')) (hs : s'.2 = false) (c : C) (h1 : c.sql = z.1) (h2 : c.ps = z.2) : joinS s = tailW t c := by
  match t, h with
  | 0, h =>
    simp only [tailR, Option.some.injEq, Prod.mk.injEq] at h
    obtain ⟨-, rfl⟩ := h
    exact joinS_off hs
  | 1, h =>
    simp only [tailR] at h
    cases ha : allS s with
    | none => rw [ha] at h; cases h
    | some x =>
      rw [ha] at h
      cases h
      rw [(all_join (x := x.1) (s' := x.2) ha).1]
      simp [tailW, h1]
  | 2, h =>
    simp only [tailR] at h
    cases hv : valsS s with
    | none => rw [hv] at h; cases h
    | some y =>
      rw [hv] at h
      simp only at h
      cases ha : allS y.2 with
      | none => rw [ha] at h; cases h
      | some x =>
        rw [ha] at h
        cases h
        rw [(vals_join (vs := y.1) (s' := y.2) hv).1, (all_join (x := x.1) (s' := x.2) ha).1]
        simp [tailW, h1, h2]
  | t + 3, h =>
    simp only [tailR] at h
    split at h
    · cases hv : valsS s with
      | none => rw [hv] at h; cases h
      | some y =>
        rw [hv] at h
        cases h
        obtain ⟨j1, j2, -⟩ := vals_join (vs := y.1) (s' := y.2) hv
        rw [j1, joinS_off hs]
        simp only at h2
        simp [tailW, h2, j2]
    · rename_i hb
      simp only [Option.some.injEq, Prod.mk.injEq] at h
      obtain ⟨rfl, rfl⟩ := h
      simp only at h2
      rw [joinS_off hs]
      simp [tailW, h2]
theorem event_join {ek : Int} {b : Bool} {t : Nat} {s : St} {c : C} (h : eventR ek b t s = some (c, false)) : eventW ek b t c = (joinS s, true) ∧ ∃ s1 s2, tailR t s1 = some ((c.sql, c.ps), s2) := by
  unfold eventR at h
  split at h
  · cases h
  · rename_i x hx
    split at h
    · cases h
    · rename_i y hy
      cases hz : tailR t y.2 with
      | none => rw [hz] at h; cases h
      | some z =>
        rw [hz] at h
        simp only [Option.map_some, Option.some.injEq, Prod.mk.injEq] at h
        obtain ⟨rfl, hf⟩ := h
        obtain ⟨j1, -⟩ := num_join (n := x.1) (s' := x.2) hx
        have j3 := tail_join (z := z.1) (s' := z.2) hz hf (C.event ek x.1 y.1 z.1.1 z.1.2) rfl rfl
        have j2 : joinS x.2 = slotW b (C.event ek x.1 y.1 z.1.1 z.1.2) ++ joinS y.2 := by
          unfold slotR at hy
          split at hy
          · rename_i hb
            rw [(num_join (n := y.1) (s' := y.2) hy).1]
            simp [slotW, hb, C.event]
          · rename_i hb
            cases hy
            simp [slotW, hb]
        refine ⟨?_, y.2, z.2, hz⟩
        rw [j1, j2, j3]
        simp [eventW, C.event]
theorem choices_join : ∀ (f : Nat) (s : St) (l : List Int), choicesR f s = some l → joinS s = chT l ∧ ∀ n ∈ l, 0 ≤ n ∧ n ≤ 999999999
  | 0, _, _, h => by cases h
  | f + 1, s, l, h => by
    simp only [choicesR] at h
    split at h
    · cases hn : numS s with
      | none => rw [hn] at h; cases h
      | some x =>
        rw [hn] at h
        simp only at h
        cases hc : choicesR f x.2 with
        | none => rw [hc] at h; cases h
        | some r =>
          rw [hc] at h
          cases h
          obtain ⟨j1, j2⟩ := num_join (n := x.1) (s' := x.2) hn
          obtain ⟨i1, i2⟩ := choices_join f x.2 r hc
          refine ⟨by rw [j1, i1]; simp [chT], fun n hn => ?_⟩
          rcases List.mem_cons.1 hn with rfl | hn
          · exact j2
          · exact i2 n hn
    · rename_i hs
      cases h
      exact ⟨joinS_off (by simpa using hs), by simp⟩
theorem restart_join {s : St} {c : C} {m : Bool} (h : restartR s = some (c, m)) : restartW c = (joinS s, true) := by
  unfold restartR at h
  split at h
  · cases h
  · rename_i x hx
    split at h
    · rename_i hw
      cases hc : choicesR (x.2.1.length + 2) x.2 with
      | none => rw [hc] at h; cases h
      | some l =>
        rw [hc] at h
        simp only [Option.map_some, Option.some.injEq, Prod.mk.injEq] at h
        obtain ⟨rfl, -⟩ := h
        rw [word_join (w := x.1) (s' := x.2) hx, (choices_join _ _ _ hc).1]
        have hq : (if (C.act 5 0 (decide (x.1 = logW)) l).log = true then logW else journalW) = x.1 := by
          simp only [C.act]
          rcases hw with hw | hw
          · simp [hw]
          · simp [hw, show journalW ≠ logW from by decide]
        unfold restartW
        rw [hq]
        simp [C.act]
    · cases h
theorem count_join {ak : Int} {s : St} {c : C} (h : countR ak s = some (c, false)) : countW ak c = (joinS s, true) := by
  unfold countR at h
  cases hn : numS s with
  | none => rw [hn] at h; cases h
  | some x =>
    rw [hn] at h
    simp only [Option.map_some, Option.some.injEq, Prod.mk.injEq] at h
    obtain ⟨rfl, hf⟩ := h
    rw [(num_join (n := x.1) (s' := x.2) hn).1, joinS_off hf]
    simp [countW, C.act]
theorem load_join {s : St} {c : C} {m : Bool} (h : loadR s = .ok (c, m)) : loadW c = (joinS s, true) ∧ c.told.all T.may = true ∧ ∀ t ∈ c.told, t.fit := by
  unfold loadR at h
  split at h
  · cases h
  · rename_i x hx
    split at h
    · cases h
    · rename_i y hy
      split at h
      · cases h
      · rename_i ts ht
        simp only [Except.ok.injEq, Prod.mk.injEq] at h
        obtain ⟨rfl, -⟩ := h
        obtain ⟨h1, h2, h3⟩ := readS_sound _ _ _ _ (Nat.zero_le _) ht
        rw [List.drop_zero] at h3
        refine ⟨?_, h1, h2⟩
        rw [(num_join (n := x.1) (s' := x.2) hx).1, (all_join (x := y.1) (s' := y.2) hy).1]
        simp [loadW, C.of, textS, textE, h1, h3]
theorem words_ok {α : Type} {o : Option α} {x : α} (h : words o = .ok x) : o = some x := by
  cases o with
  | none => cases h
  | some y => cases h; rfl
theorem verb_join {i : Nat} {s : St} {c : C} (h : verbR i s = .ok (c, false)) : verbT i c = (joinS s, true) ∧ (i = 2 → c.ps = []) ∧ (i = 3 → c.ps ≠ []) := by
  by_cases h9 : i = 9
  · subst h9
    simp only [verbR, Except.ok.injEq, Prod.mk.injEq] at h
    obtain ⟨rfl, hs⟩ := h
    refine ⟨?_, (by intro e; cases e), (by intro e; cases e)⟩
    rw [joinS_off hs]; rfl
  by_cases h10 : i = 10
  · subst h10
    simp only [verbR, Except.ok.injEq, Prod.mk.injEq] at h
    obtain ⟨rfl, hs⟩ := h
    refine ⟨?_, (by intro e; cases e), (by intro e; cases e)⟩
    rw [joinS_off hs]; rfl
  by_cases h11 : i = 11
  · subst h11
    exact ⟨count_join (words_ok h), (by intro e; cases e), (by intro e; cases e)⟩
  by_cases h12 : i = 12
  · subst h12
    exact ⟨count_join (words_ok h), (by intro e; cases e), (by intro e; cases e)⟩
  by_cases h13 : i = 13
  · subst h13
    exact ⟨restart_join (words_ok h), (by intro e; cases e), (by intro e; cases e)⟩
  by_cases h14 : i = 14
  · subst h14
    simp only [verbR, Except.ok.injEq, Prod.mk.injEq] at h
    obtain ⟨rfl, hs⟩ := h
    refine ⟨?_, (by intro e; cases e), (by intro e; cases e)⟩
    rw [joinS_off hs]; rfl
  by_cases h15 : i = 15
  · subst h15
    simp only [verbR, Except.ok.injEq, Prod.mk.injEq] at h
    obtain ⟨rfl, hs⟩ := h
    refine ⟨?_, (by intro e; cases e), (by intro e; cases e)⟩
    rw [joinS_off hs]; rfl
  by_cases h16 : i = 16
  · subst h16
    exact ⟨(load_join h).1, (by intro e; cases e), (by intro e; cases e)⟩
  have hR : verbR i s = words (eventR (evKind i) (evSlot i) (evTail i) s) := by
    unfold verbR; split <;> simp_all
  have hT : verbT i c = eventW (evKind i) (evSlot i) (evTail i) c := by
    unfold verbT; split <;> simp_all
  rw [hR] at h
  obtain ⟨j1, s1, s2, j2⟩ := event_join (words_ok h)
  refine ⟨by rw [hT, j1], ?_, ?_⟩
  · intro e
    subst e
    simp only [evTail, tailR] at j2
    cases ha : allS s1 with
    | none => rw [ha] at j2; cases j2
    | some x => rw [ha] at j2; simp only [Option.map_some, Option.some.injEq, Prod.mk.injEq] at j2; exact j2.1.2.symm
  · intro e
    subst e
    simp only [evTail, tailR] at j2
    cases hv : valsS s1 with
    | none => rw [hv] at j2; cases j2
    | some y =>
      rw [hv] at j2
      simp only at j2
      cases ha : allS y.2 with
      | none => rw [ha] at j2; cases j2
      | some x =>
        rw [ha] at j2
        simp only [Option.map_some, Option.some.injEq, Prod.mk.injEq] at j2
        rw [← j2.1.2]
        exact (vals_join (vs := y.1) (s' := y.2) hv).2.1
theorem verbNo_some {w : List UInt8} {i : Nat} (h : verbNo w = some i) : i < 17 ∧ verbW i = w := by
  unfold verbNo at h
  have h1 := List.mem_of_find?_eq_some h
  have h2 := List.find?_some h
  exact ⟨List.mem_range.1 h1, by simpa using h2⟩
theorem parse_join {l : List UInt8} {c : C} (h : parseS l = .ok c) : ∃ i s, i < 17 ∧ verbNo (cutX true false l).1 = some i ∧ verbR i s = .ok (c, false) ∧ verbT i c = (joinS s, true) ∧ verbW i ++ joinS s = l ∧ (i = 2 → c.ps = []) ∧ (i = 3 → c.ps ≠ []) := by
  unfold parseS at h
  split at h
  · cases h
  · rename_i i hi
    split at h
    · cases h
    · rename_i x hx
      split at h
      · cases h
      · rename_i hm
        cases h
        obtain ⟨h1, h2⟩ := verbNo_some hi
        obtain ⟨c, m⟩ := x
        simp only [Bool.not_eq_true] at hm
        subst hm
        obtain ⟨j1, j2, j3⟩ := verb_join hx
        exact ⟨i, _, h1, hi, hx, j1, by rw [h2]; exact cutX_join _ _ _, j2, j3⟩

/-! ### Lines -/
theorem line_of {i : Nat} {c : C} {x : List UInt8} (hi : i < 17) (h : verbT i c = (x, true)) (h2 : i = 2 → c.ps = []) (h3 : i = 3 → c.ps ≠ []) : lineS c = verbW i ++ x := by
  match i, hi with
  | 0, _ | 1, _ | 2, _ | 3, _ | 4, _ | 5, _ | 6, _ | 7, _ | 8, _ =>
    simp only [verbT, eventW, evKind, evSlot, evTail, slotW, tailW, Prod.mk.injEq, Bool.and_eq_true, decide_eq_true_eq] at h
    obtain ⟨rfl, ⟨a1, a2⟩, a3⟩ := h
    simp [lineS, lineA, lineE, wordOf, slotK, a1, a2, a3]
    try (by_cases hp : c.ps = [] <;> simp_all)
  | 9, _ | 10, _ | 14, _ | 15, _ =>
    simp only [verbT, plainW, Prod.mk.injEq, Bool.and_eq_true, decide_eq_true_eq] at h
    obtain ⟨rfl, ⟨a1, a2⟩, a3⟩ := h
    simp [lineS, lineA, lineE, wordOf, a1, a2, a3]
  | 11, _ | 12, _ =>
    simp only [verbT, countW, Prod.mk.injEq, Bool.and_eq_true, decide_eq_true_eq] at h
    obtain ⟨rfl, a1, a2⟩ := h
    simp [lineS, lineA, a1, a2]
  | 13, _ =>
    simp only [verbT, restartW, Prod.mk.injEq, Bool.and_eq_true, decide_eq_true_eq] at h
    obtain ⟨rfl, a1, a2⟩ := h
    simp [lineS, lineA, a1, a2]
  | 16, _ =>
    simp only [verbT, loadW, Prod.mk.injEq, Bool.and_eq_true, decide_eq_true_eq] at h
    obtain ⟨rfl, a1, a2⟩ := h
    simp [lineS, a1]
  | i + 17, hi => omega
/-- A line that is read as a command is that command's line. -/
theorem line_join {l : List UInt8} {c : C} (h : parseS l = .ok c) : lineS c = l := by
  obtain ⟨i, s, hi, -, -, hT, hl, h2, h3⟩ := parse_join h
  rw [line_of hi hT h2 h3, hl]

/-! ### Sameness -/
theorem sameV_eq {v u : V} (h : sameV v u = true) : v = u := by
  obtain ⟨k, n, s⟩ := v
  obtain ⟨k', n', s'⟩ := u
  simp only [sameV, Bool.and_eq_true, beq_iff_eq] at h
  obtain ⟨⟨rfl, rfl⟩, h⟩ := h
  have : s = s' := by rw [← arr_self s, ← arr_self s', h]
  rw [this]
theorem sameVs_eq : ∀ {vs us : List V}, sameVs vs us = true → vs = us
  | [], [], _ => rfl
  | [], _ :: _, h => by simp [sameVs] at h
  | _ :: _, [], h => by simp [sameVs] at h
  | v :: vs, u :: us, h => by
    simp only [sameVs, List.length_cons, List.zip_cons_cons, List.all_cons, Bool.and_eq_true, decide_eq_true_eq] at h
    have h2 : sameVs vs us = true := by simp only [sameVs, Bool.and_eq_true, decide_eq_true_eq]; exact ⟨by omega, h.2.2⟩
    rw [sameV_eq h.2.1, sameVs_eq h2]
theorem sameTs_eq : ∀ {vs us : List T}, sameTs vs us = true → vs = us
  | [], [], _ => rfl
  | [], _ :: _, h => by simp [sameTs] at h
  | _ :: _, [], h => by simp [sameTs] at h
  | ⟨s, p⟩ :: vs, ⟨s', p'⟩ :: us, h => by
    simp only [sameTs, List.length_cons, List.zip_cons_cons, List.all_cons, Bool.and_eq_true, decide_eq_true_eq] at h
    have h2 : sameTs vs us = true := by simp only [sameTs, Bool.and_eq_true, decide_eq_true_eq]; exact ⟨by omega, h.2.2⟩
    have h3 := h.2.1
    simp only [sameT, Bool.and_eq_true, beq_iff_eq] at h3
    have : s = s' := by rw [← arr_self s, ← arr_self s', h3.1]
    rw [this, sameVs_eq h3.2, sameTs_eq h2]
theorem sameC_self (c : C) : sameC c c = true := by simp [sameC, sameIs, sameTs_self, sameVs_self]
theorem sameC_eq {a b : C} (h : sameC a b = true) : a = b := by
  obtain ⟨k, ak, ek, ec, es, sql, ps, n, log, ch, conn, told⟩ := a
  obtain ⟨k', ak', ek', ec', es', sql', ps', n', log', ch', conn', told'⟩ := b
  simp only [sameC, sameIs, Bool.and_eq_true, beq_iff_eq, decide_eq_true_eq] at h
  obtain ⟨⟨⟨⟨⟨⟨⟨h1, h2⟩, h3⟩, h4⟩, h5⟩, h6⟩, h7⟩, ⟨⟨⟨h8, h9⟩, h10⟩, h11⟩, h12⟩ := h
  have : sql = sql' := by rw [← arr_self sql, ← arr_self sql', h11]
  rw [h1, h2, h3, h4, h5, h6, sameTs_eq h7, h8, h9, h10, this, sameVs_eq h12]
theorem readAs_eq {c : C} {l : List UInt8} (h : readAs c l = true) : parseS l = .ok c ∧ lineS c = l := by
  unfold readAs at h
  split at h
  · cases h
  · rename_i d hd
    rw [← sameC_eq h] at hd
    exact ⟨hd, line_join hd⟩
theorem readAs_of {c : C} {l : List UInt8} (h : parseS l = .ok c) : readAs c l = true := by simp [readAs, h, sameC_self]

/-- The shell's way is the document's. -/
theorem printV_eq (c : C) : printV c = printS c := by
  unfold printV printS
  cases hf : (List.range 17).find? (tryV c) with
  | none =>
    have hn : readAs c (lineS c) = false := by
      cases hr : readAs c (lineS c) with
      | false => rfl
      | true =>
        obtain ⟨i, s, hi, -, -, hT, hl, -, -⟩ := parse_join (readAs_eq hr).1
        have h1 := List.find?_eq_none.1 hf i (List.mem_range.2 hi)
        exfalso
        apply h1
        simp only [tryV, hT, hl, hr, Bool.and_self]
    simp [hn]
  | some i =>
    have h2 := List.find?_some hf
    simp only [tryV, Bool.and_eq_true] at h2
    obtain ⟨h3, h4⟩ := readAs_eq h2.2
    simp only [h4, h2.2, if_true]
/-- What is read is written as the line. -/
theorem print_parse {l : List UInt8} {c : C} (h : parseS l = .ok c) : printS c = (l, 0) := by
  unfold printS
  rw [line_join h, readAs_of h, if_pos rfl]
/-- What is written is read. -/
theorem parse_print {c : C} (h : (printS c).2 = 0) : parseS (printS c).1 = .ok c := by
  unfold printS at h ⊢
  split
  · rename_i hr
    exact (readAs_eq hr).1
  · rename_i hr
    rw [if_neg hr] at h
    cases h
end Go.Proofs.YtkkildkleleppaaGreatDoor
