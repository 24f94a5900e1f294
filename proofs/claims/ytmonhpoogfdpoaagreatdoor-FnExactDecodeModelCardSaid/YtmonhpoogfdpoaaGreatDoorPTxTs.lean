/-
  The text form of a model, in plain mathematics: encoding, splitting, reading back. No program is mentioned.
  Texts in memory: slices of strings, lists of strings of the call's own. No program is mentioned.
-/
import Derived.Test.YtmonhpoogfdpoaaGreatDoorPFP
import Derived.Lib.ItoaNum
import Derived.Lib.ItoaLen
import Derived.Lib.AtoiAll
import Derived.Lib.SplitLaws
import Derived.Lib.Join
import Derived.Lib.SlicesS
set_option linter.unusedVariables false
set_option linter.unusedSimpArgs false
namespace Go.Proofs.YtmonhpoogfdpoaaGreatDoor

abbrev Bs := List UInt8
def num (n : Int) : Bs := Lib.itoa n
def listT (l : List Int) : Bs := if l = [] then [45] else Lib.join (l.map num) [44]

/-- The pieces of a text between the bytes c. -/
def sp (c : UInt8) : Bs → List Bs
  | [] => [[]]
  | b :: l => if b = c then [] :: sp c l else
    match sp c l with
    | [] => [[b]]
    | h :: t => (b :: h) :: t
/-- .. cut k times at most. -/
def spN (c : UInt8) : Nat → Bs → List Bs
  | _, [] => [[]]
  | 0, b :: l => [b :: l]
  | k + 1, b :: l => if b = c then [] :: spN c k l else
    match spN c (k + 1) l with
    | [] => [[b]]
    | h :: t => (b :: h) :: t

theorem sp_ne (c : UInt8) (l : Bs) : sp c l ≠ [] := by
  cases l with
  | nil => simp [sp]
  | cons b l => rw [sp]; split; simp; split <;> simp
theorem sp_len (c : UInt8) : ∀ l : Bs, (sp c l).length = l.count c + 1
  | [] => rfl
  | b :: l => by
    have ih := sp_len c l
    rw [sp]
    split
    · rename_i h; subst h; simp [ih]
    · rename_i h
      have hn : (b == c) = false := by simpa using h
      rw [List.count_cons, hn]
      split
      · rename_i e; exact absurd e (sp_ne c l)
      · rename_i e; rw [e] at ih; simpa using ih
theorem sp_none (c : UInt8) : ∀ x : Bs, c ∉ x → sp c x = [x]
  | [], _ => rfl
  | b :: l, h => by
    rw [sp, if_neg (fun e => h (by simp [e])), sp_none c l (fun e => h (by simp [e]))]
theorem sp_hit (c : UInt8) : ∀ (x : Bs) (r : Bs), c ∉ x → sp c (x ++ c :: r) = x :: sp c r
  | [], r, _ => by simp [sp]
  | b :: l, r, h => by
    rw [List.cons_append, sp, if_neg (fun e => h (by simp [e])), sp_hit c l r (fun e => h (by simp [e]))]
theorem sp_piece (c : UInt8) : ∀ (l x : Bs), x ∈ sp c l → x.length ≤ l.length
  | [], x, h => by simp [sp] at h; simp [h]
  | b :: l, x, h => by
    have ih := sp_piece c l
    rw [sp] at h
    split at h
    · rcases List.mem_cons.1 h with rfl | h
      · simp
      · have := ih x h; simp; omega
    · split at h
      · rename_i e; exact absurd e (sp_ne c l)
      · rename_i hd tl e
        rw [e] at ih
        rcases List.mem_cons.1 h with rfl | h
        · have := ih hd (by simp); simp; omega
        · have := ih x (by simp [h]); simp; omega
theorem spN_ne (c : UInt8) (k : Nat) (l : Bs) : spN c k l ≠ [] := by
  cases l with
  | nil => simp [spN]
  | cons b l =>
    cases k with
    | zero => simp [spN]
    | succ k => rw [spN]; split; simp; split <;> simp
theorem spN_zero (c : UInt8) (l : Bs) : spN c 0 l = [l] := by cases l <;> rfl
theorem spN_none (c : UInt8) (k : Nat) : ∀ x : Bs, c ∉ x → spN c k x = [x]
  | [], _ => by simp [spN]
  | b :: l, h => by
    cases k with
    | zero => rfl
    | succ k => rw [spN, if_neg (fun e => h (by simp [e])), spN_none c (k + 1) l (fun e => h (by simp [e]))]
theorem spN_hit (c : UInt8) (k : Nat) : ∀ (x : Bs) (r : Bs), c ∉ x → spN c (k + 1) (x ++ c :: r) = x :: spN c k r
  | [], r, _ => by simp [spN]
  | b :: l, r, h => by
    rw [List.cons_append, spN, if_neg (fun e => h (by simp [e])), spN_hit c k l r (fun e => h (by simp [e]))]
theorem spN_len (c : UInt8) : ∀ (l : Bs) (k : Nat), (spN c k l).length ≤ k + 1
  | [], k => by simp [spN]
  | b :: l, 0 => by simp [spN]
  | b :: l, k + 1 => by
    rw [spN]
    split
    · have := spN_len c l k; simp; omega
    · have ih := spN_len c l (k + 1)
      split
      · simp
      · rename_i e; rw [e] at ih; simpa using ih
theorem spN_piece (c : UInt8) : ∀ (l : Bs) (k : Nat) (x : Bs), x ∈ spN c k l → x.length ≤ l.length
  | [], k, x, h => by simp [spN] at h; simp [h]
  | b :: l, 0, x, h => by rw [spN_zero] at h; simp at h; simp [h]
  | b :: l, k + 1, x, h => by
    rw [spN] at h
    split at h
    · rcases List.mem_cons.1 h with rfl | h
      · simp
      · have := spN_piece c l k x h; simp; omega
    · have ih := spN_piece c l (k + 1)
      split at h
      · simp at h; simp [h]
      · rename_i hd tl e
        rw [e] at ih
        rcases List.mem_cons.1 h with rfl | h
        · have := ih hd (by simp); simp; omega
        · have := ih x (by simp [h]); simp; omega
theorem spN_sp (c : UInt8) : ∀ (l : Bs) (k : Nat), (sp c l).length ≤ k + 1 → spN c k l = sp c l
  | [], k, _ => by simp [spN, sp]
  | b :: l, 0, h => by
    rw [spN_zero, sp_none]
    intro hm
    rw [sp_len] at h
    have := List.count_pos_iff.2 hm
    omega
  | b :: l, k + 1, h => by
    rw [sp_len] at h
    rw [spN, sp]
    split
    · rename_i e
      subst e
      rw [spN_sp b l k (by rw [sp_len]; simp at h; omega)]
    · rename_i e
      have hn : (b == c) = false := by simpa using e
      rw [List.count_cons, hn] at h
      rw [spN_sp c l (k + 1) (by rw [sp_len]; simpa using h)]

theorem splitK_sp (c : UInt8) : ∀ l : Bs, Lib.splitK [c] 0 (l.count c) l = sp c l
  | [] => rfl
  | b :: l => by
    have ih := splitK_sp c l
    by_cases h : b = c
    · subst h
      rw [List.count_cons_self, Lib.splitK, sp, if_pos rfl]
      have hi : Lib.index (b :: l) [b] = 0 := by simp [Lib.index]
      rw [hi, if_neg (by decide), ← ih]
      simp
    · have hn : (b == c) = false := by simpa using h
      rw [List.count_cons, hn, sp, if_neg h]
      simp only [Bool.false_eq_true, if_false, Nat.add_zero]
      have hi : Lib.index (b :: l) [c] = if Lib.index l [c] == -1 then -1 else Lib.index l [c] + 1 := by
        rw [Lib.index, if_neg (by simp; exact fun e => h e.symm)]
      cases hk : l.count c with
      | zero =>
        rw [hk] at ih
        rw [← ih]
        rfl
      | succ k =>
        rw [hk] at ih
        rw [← ih, Lib.splitK, Lib.splitK, hi]
        have hge := Lib.index_ge l [c]
        cases hx : (Lib.index l [c] == -1) with
        | true => simp
        | false =>
          have hx' : Lib.index l [c] ≠ -1 := by simpa using hx
          obtain ⟨i, hi'⟩ : ∃ i : Nat, Lib.index l [c] = i := ⟨(Lib.index l [c]).toNat, by omega⟩
          rw [hi']
          have h1 : (((i : Int) + 1 == -1) = true) = False := by simp; omega
          have h2 : ((i : Int) + 1).toNat = i + 1 := by omega
          simp only [Bool.false_eq_true, if_false, h1, h2, Nat.add_zero, List.take_succ_cons, List.length_cons, List.length_nil, Int.toNat_natCast, Nat.zero_add]
          rw [show i + 1 + 1 = (i + 1) + 1 from rfl, List.drop_succ_cons]

theorem indexByte_none (c : UInt8) : ∀ l : Bs, Lib.indexByte l c = -1 → c ∉ l
  | [], _ => by simp
  | b :: l, h => by
    rw [Lib.indexByte] at h
    split at h
    · cases h
    · rename_i hb
      split at h
      · rename_i hx
        have := indexByte_none c l (by simpa using hx)
        simp only [List.mem_cons, not_or]
        exact ⟨fun e => hb (by simp [e]), this⟩
      · rename_i hx
        have := indexByte_ge l
        omega
where
  indexByte_ge : ∀ l : Bs, -1 ≤ Lib.indexByte l c
    | [] => by simp [Lib.indexByte]
    | b :: l => by
      have := indexByte_ge l
      rw [Lib.indexByte]
      split
      · omega
      · split <;> omega
theorem indexByte_some (c : UInt8) : ∀ (l : Bs) (i : Nat), Lib.indexByte l c = i → i < l.length ∧ c ∉ l.take i ∧ l = l.take i ++ c :: l.drop (i + 1)
  | [], i, h => by simp [Lib.indexByte] at h
  | b :: l, i, h => by
    rw [Lib.indexByte] at h
    split at h
    · rename_i hb
      have : b = c := by simpa using hb
      obtain rfl : i = 0 := by omega
      subst this
      simp
    · rename_i hb
      split at h
      · omega
      · rename_i hx
        have hge := indexByte_none.indexByte_ge c l
        have hx' : Lib.indexByte l c ≠ -1 := by simpa using hx
        obtain ⟨k, rfl⟩ : ∃ k, i = k + 1 := ⟨i - 1, by omega⟩
        obtain ⟨h1, h2, h3⟩ := indexByte_some c l k (by omega)
        refine ⟨by simp; omega, ?_, ?_⟩
        · simp only [List.take_succ_cons, List.mem_cons, not_or]
          exact ⟨fun e => hb (by simp [e]), h2⟩
        · rw [List.take_succ_cons, List.drop_succ_cons, List.cons_append, ← h3]

/-! ### Numbers -/
def atoiO (s : Bs) : Option Int := match Lib.atoiAll s with | .ok v => some v | _ => none
def atoiV (s : Bs) : Int := match Lib.atoiAll s with | .ok v => v | .range => Lib.atoiSat s | _ => 0

/-- The reference's reading of a number: digits, at most four. -/
def parD : Nat → Nat → Bs → Option Nat
  | _, n, [] => some n
  | i, n, b :: l => if b < 48 ∨ 57 < b ∨ 4 ≤ i then none else parD (i + 1) (n * 10 + (b.toNat - 48)) l
def parM (neg : Bool) (s : Bs) : Int :=
  match parD 0 0 s with
  | none => -100000
  | some n => if s.length = 0 ∨ (1 < s.length ∧ s.head? = some 48) ∨ (neg = true ∧ n = 0) then -100000 else if neg then -(n : Int) else n
def parI (s : Bs) : Int := if s.head? = some 45 then parM true s.tail else parM false s

def dig3 (u : Nat) : Bs := if u < 10 then [UInt8.ofNat (48 + u)] else if u < 100 then [UInt8.ofNat (48 + u / 10), UInt8.ofNat (48 + u % 10)]
  else [UInt8.ofNat (48 + u / 100), UInt8.ofNat (48 + u / 10 % 10), UInt8.ofNat (48 + u % 10)]
theorem dig3_eq {u : Nat} (h : u < 1000) : Lib.decDigits u = dig3 u := by
  unfold dig3
  by_cases h1 : u < 10
  · rw [if_pos h1, Lib.decDigits_one h1]
  · by_cases h2 : u < 100
    · rw [if_neg h1, if_pos h2, Lib.decDigits_two h1 h2]
    · rw [if_neg h1, if_neg h2, Lib.decDigits, dif_neg h1, Lib.decDigits_two (by omega) (by omega), show u / 10 / 10 = u / 100 by omega]
      rfl
def goodNum (s : Bs) (n : Int) : Bool :=
  (match Lib.atoiAll s with | .ok v => v == n | _ => false) && (parI s == n) && s.all (fun b => b != 44 && b != 32 && b != 10) && (s != [45]) && (s != []) && decide (s.length ≤ 4)
theorem goodNum_fin : ∀ u : Fin 1000, goodNum (dig3 u.val) u.val = true ∧ (u.val = 0 ∨ goodNum (45 :: dig3 u.val) (-(u.val : Int)) = true) := by decide +kernel
theorem num_good {n : Int} (h : -999 ≤ n ∧ n ≤ 999) : goodNum (num n) n = true := by
  unfold num Lib.itoa
  by_cases h0 : n < 0
  · rw [if_pos h0, dig3_eq (by omega)]
    have := (goodNum_fin ⟨n.natAbs, by omega⟩).2
    rcases this with h1 | h1
    · simp at h1; omega
    · have e : -((n.natAbs : Nat) : Int) = n := by omega
      simp only [e] at h1
      exact h1
  · rw [if_neg h0, dig3_eq (by omega)]
    have := (goodNum_fin ⟨n.toNat, by omega⟩).1
    have e : ((n.toNat : Nat) : Int) = n := by omega
    simp only [e] at this
    exact this
structure NumOk (s : Bs) (n : Int) : Prop where
  ato : atoiO s = some n
  par : parI s = n
  c44 : (44 : UInt8) ∉ s
  c32 : (32 : UInt8) ∉ s
  c10 : (10 : UInt8) ∉ s
  ne : s ≠ [45]
  ne' : s ≠ []
  len : s.length ≤ 4
theorem num_ok {n : Int} (h : -999 ≤ n ∧ n ≤ 999) : NumOk (num n) n := by
  have hg := num_good h
  unfold goodNum at hg
  simp only [Bool.and_eq_true, beq_iff_eq, bne_iff_ne, ne_eq, List.all_eq_true, decide_eq_true_eq] at hg
  obtain ⟨⟨⟨⟨⟨h1, h2⟩, h3⟩, h4⟩, h5⟩, h6⟩ := hg
  refine ⟨?_, h2, fun hm => (h3 _ hm).1.1 rfl, fun hm => (h3 _ hm).1.2 rfl, fun hm => (h3 _ hm).2 rfl, h4, h5, h6⟩
  unfold atoiO
  split at h1
  · rename_i v e; simpa using h1
  · cases h1

/-! ### Lists -/
def rdL (s : Bs) : List Int × Bool :=
  if s = [45] then ([], true) else
  match (sp 44 s).mapM atoiO with
  | none => ([], false)
  | some l => (l, decide (listT l = s))
def parL (s : Bs) : List Int := if s = [45] then [] else (spN 44 20 s).map parI

def Sm (l : List Int) : Prop := ∀ n ∈ l, -999 ≤ n ∧ n ≤ 999
theorem join_tail (c : UInt8) : ∀ (x : Bs) (r : List Bs), r ≠ [] → Lib.join (x :: r) [c] = x ++ c :: Lib.join r [c]
  | x, y :: r, _ => by
    rw [Lib.join_cons, Lib.join_cons]
    simp [Lib.joinTail]
theorem sp_join (c : UInt8) : ∀ (r : List Bs), r ≠ [] → (∀ x ∈ r, c ∉ x) → sp c (Lib.join r [c]) = r
  | [x], _, h => by rw [Lib.join_one, sp_none c x (h x (by simp))]
  | x :: y :: r, _, h => by
    rw [join_tail c x (y :: r) (by simp), sp_hit c x _ (h x (by simp)), sp_join c (y :: r) (by simp) (fun z hz => h z (by simp at hz ⊢; exact .inr hz))]
theorem mapM_ato : ∀ (l : List Int), Sm l → (l.map num).mapM atoiO = some l
  | [], _ => rfl
  | n :: l, h => by
    rw [List.map_cons, List.mapM_cons, (num_ok (h n (by simp))).ato, mapM_ato l (fun x hx => h x (by simp [hx]))]
    rfl
theorem map_par : ∀ (l : List Int), Sm l → (l.map num).map parI = l
  | [], _ => rfl
  | n :: l, h => by
    rw [List.map_cons, List.map_cons, (num_ok (h n (by simp))).par, map_par l (fun x hx => h x (by simp [hx]))]
theorem listT_ne {l : List Int} (h : Sm l) (h0 : l ≠ []) : listT l ≠ [45] := by
  unfold listT
  rw [if_neg h0]
  match l, h0, h with
  | [n], _, h => simp only [List.map_cons, List.map_nil]; rw [Lib.join_one]; exact (num_ok (h n (by simp))).ne
  | n :: k :: l, _, h =>
    rw [List.map_cons, join_tail 44 _ _ (by simp)]
    intro e
    have h1 := (num_ok (h n (by simp))).ne'
    cases hx : num n with
    | nil => exact h1 hx
    | cons b r => rw [hx] at e; simp at e
theorem sp_listT {l : List Int} (h : Sm l) (h0 : l ≠ []) : sp 44 (listT l) = l.map num := by
  unfold listT
  rw [if_neg h0]
  refine sp_join 44 _ (by simpa using h0) fun x hx => ?_
  obtain ⟨n, hn, rfl⟩ := List.mem_map.1 hx
  exact (num_ok (h n hn)).c44
theorem rdL_listT {l : List Int} (h : Sm l) : rdL (listT l) = (l, true) := by
  unfold rdL
  by_cases h0 : l = []
  · subst h0; simp [listT]
  · rw [if_neg (listT_ne h h0), sp_listT h h0, mapM_ato l h]
    simp
theorem parL_listT {l : List Int} (h : Sm l) (hl : l.length ≤ 21) : parL (listT l) = l := by
  unfold parL
  by_cases h0 : l = []
  · subst h0; simp [listT]
  · rw [if_neg (listT_ne h h0), spN_sp, sp_listT h h0, map_par l h]
    rw [sp_listT h h0]; simpa using hl
theorem join_mem {c : UInt8} : ∀ (r : List Bs) (b : UInt8), b ∈ Lib.join r [c] → b = c ∨ ∃ x ∈ r, b ∈ x
  | [], b, h => by simp [Lib.join_nil] at h
  | [x], b, h => by rw [Lib.join_one] at h; exact .inr ⟨x, by simp, h⟩
  | x :: y :: r, b, h => by
    rw [join_tail c x (y :: r) (by simp)] at h
    rcases List.mem_append.1 h with h | h
    · exact .inr ⟨x, by simp, h⟩
    · rcases List.mem_cons.1 h with h | h
      · exact .inl h
      · rcases join_mem (y :: r) b h with h | ⟨z, hz, hb⟩
        · exact .inl h
        · exact .inr ⟨z, by simp at hz ⊢; exact .inr hz, hb⟩
theorem listT_free {l : List Int} (h : Sm l) : (32 : UInt8) ∉ listT l ∧ (10 : UInt8) ∉ listT l := by
  unfold listT
  split
  · decide
  · constructor
    · intro hm
      rcases join_mem _ _ hm with h1 | ⟨x, hx, hb⟩
      · exact absurd h1 (by decide)
      · obtain ⟨n, hn, rfl⟩ := List.mem_map.1 hx
        exact (num_ok (h n hn)).c32 hb
    · intro hm
      rcases join_mem _ _ hm with h1 | ⟨x, hx, hb⟩
      · exact absurd h1 (by decide)
      · obtain ⟨n, hn, rfl⟩ := List.mem_map.1 hx
        exact (num_ok (h n hn)).c10 hb
theorem lens_num : ∀ (l : List Int), Sm l → Lib.lens (l.map num) ≤ 4 * l.length
  | [], _ => by simp [Lib.lens]
  | n :: l, h => by
    have := lens_num l (fun x hx => h x (by simp [hx]))
    have h1 := (num_ok (h n (by simp))).len
    simp only [Lib.lens, List.map_cons, List.sum_cons, List.length_cons] at this ⊢
    omega
theorem listT_len {l : List Int} (h : Sm l) : (listT l).length ≤ 5 * l.length + 1 := by
  unfold listT
  split
  · simp
  · rename_i h0
    cases l with
    | nil => simp at h0
    | cons n l =>
      have := lens_num (n :: l) h
      rw [List.map_cons] at this ⊢
      rw [Lib.join_length]
      simp only [List.length_cons, List.length_nil, List.length_map] at this ⊢
      omega

/-! ### Domains -/
def endF (d : Nat) : Nat → Nat → Nat
  | 0, e => e
  | f + 1, e => if e < 5 ∧ d.testBit (e + 1) then endF d f (e + 1) else e
def startB (d v : Nat) : Bool := d.testBit v && (v == 0 || !d.testBit (v - 1))
def pieceT (d v : Nat) : Bs := num v ++ (if v < endF d 5 v then 45 :: num (endF d 5 v) else [])
def pcs (d v : Nat) : List Bs := ((List.range v).filter (startB d)).map (pieceT d)
def domT (d : Nat) : Bs := if d = 0 then [101, 109, 112, 116, 121] else Lib.join (pcs d 6) [44]
def decDom (s : Bs) : Option Nat := (List.range 64).find? fun d => decide (domT d = s)
/-- The same with digits that the kernel can reckon. -/
def piece1 (d v : Nat) : Bs := UInt8.ofNat (48 + v) :: (if v < endF d 5 v then [45, UInt8.ofNat (48 + endF d 5 v)] else [])
theorem endF_le (d : Nat) : ∀ (f e : Nat), e ≤ 5 → endF d f e ≤ 5
  | 0, e, h => h
  | f + 1, e, h => by
    rw [endF]
    split
    · exact endF_le d f (e + 1) (by omega)
    · exact h
theorem num_one {v : Nat} (h : v < 10) : num v = [UInt8.ofNat (48 + v)] := by
  unfold num Lib.itoa
  rw [if_neg (by omega), Int.toNat_natCast, Lib.decDigits_one h]
theorem piece_eq {d v : Nat} (h : v ≤ 5) : pieceT d v = piece1 d v := by
  unfold pieceT piece1
  have := endF_le d 5 v h
  rw [num_one (by omega), num_one (by omega)]
  split <;> rfl
def dom1 (d : Nat) : Bs := if d = 0 then [101, 109, 112, 116, 121] else Lib.join (((List.range 6).filter (startB d)).map (piece1 d)) [44]
theorem dom_eq (d : Nat) : domT d = dom1 d := by
  unfold domT dom1 pcs
  congr 2
  refine List.map_congr_left fun v hv => ?_
  rw [List.mem_filter, List.mem_range] at hv
  exact piece_eq (by omega)
theorem dom_fin : ∀ d : Fin 64, ((List.range 64).find? fun e => decide (dom1 e = dom1 d.val)) = some d.val ∧ (10 : UInt8) ∉ dom1 d.val ∧ (32 : UInt8) ∉ dom1 d.val ∧ (dom1 d.val).length ≤ 20 := by decide +kernel
theorem decDom_domT {d : Nat} (h : d < 64) : decDom (domT d) = some d := by
  have := (dom_fin ⟨d, h⟩).1
  unfold decDom
  simp only [dom_eq]
  exact this
theorem domT_free {d : Nat} (h : d < 64) : (10 : UInt8) ∉ domT d ∧ (32 : UInt8) ∉ domT d ∧ (domT d).length ≤ 20 := by
  rw [dom_eq]; exact (dom_fin ⟨d, h⟩).2
theorem decDom_some {s : Bs} {d : Nat} (h : decDom s = some d) : d < 64 ∧ domT d = s := by
  unfold decDom at h
  have h1 := List.find?_some h
  have h2 := List.mem_of_find?_eq_some h
  exact ⟨by simpa using h2, by simpa using h1⟩
end Go.Proofs.YtmonhpoogfdpoaaGreatDoor

namespace Go.Proofs.YtmonhpoogfdpoaaGreatDoor

/-! ### Constraints -/
def kws : List Bs := [[], [108, 105, 110, 101, 97, 114], [110, 111, 116, 101, 113, 117, 97, 108], [97, 108, 108, 100, 105, 102, 102, 101, 114, 101, 110, 116], [101, 108, 101, 109, 101, 110, 116], [116, 97, 98, 108, 101],
  [99, 111, 117, 110, 116], [99, 117, 109, 117, 108, 97, 116, 105, 118, 101], [114, 101, 103, 117, 108, 97, 114], [99, 105, 114, 99, 117, 105, 116]]
def kwT (k : Int) : Bs := kws.getD k.toNat []
def rowsT (rows : List (List Int)) : Bs := (rows.map fun r => 32 :: listT r).flatten
def conT (c : Con) : Bs := kwT c.kind ++ 32 :: (listT c.vars ++ 32 :: (listT c.args ++ 32 :: (num c.bound ++ rowsT c.rows)))

/-- The first keyword that is the word, else 0. -/
def kindO (w : Bs) : Int := if w = kws.getD 1 [] then 1 else if w = kws.getD 2 [] then 2 else if w = kws.getD 3 [] then 3 else if w = kws.getD 4 [] then 4 else if w = kws.getD 5 [] then 5
  else if w = kws.getD 6 [] then 6 else if w = kws.getD 7 [] then 7 else if w = kws.getD 8 [] then 8 else if w = kws.getD 9 [] then 9 else 0
def wd (ws : List Bs) (i : Nat) : Bs := ws.getD i []
def mkCon (ws : List Bs) : Con := ⟨kindO (wd ws 0), (rdL (wd ws 1)).1, (rdL (wd ws 2)).1, atoiV (wd ws 3), (ws.drop 4).map fun w => (rdL w).1⟩
def mkOk (ws : List Bs) : Bool := (rdL (wd ws 1)).2 && (ws.drop 4).all (fun w => (rdL w).2) && (rdL (wd ws 2)).2 && (atoiO (wd ws 3)).isSome
def rdC (s : Bs) (n : Nat) : Option Con :=
  if (sp 32 s).length < 4 ∨ 12 < (sp 32 s).length then none
  else if mkOk (sp 32 s) = true ∧ validCon (mkCon (sp 32 s)) n = true ∧ conT (mkCon (sp 32 s)) = s then some (mkCon (sp 32 s)) else none
def parC (s : Bs) : Con :=
  if (spN 32 12 s).length < 4 then ⟨0, [], [], 0, []⟩
  else ⟨kindO (wd (spN 32 12 s) 0), parL (wd (spN 32 12 s) 1), parL (wd (spN 32 12 s) 2), parI (wd (spN 32 12 s) 3), ((spN 32 12 s).drop 4).map parL⟩

/-- What a valid constraint's numbers are like. -/
structure ConOk (c : Con) : Prop where
  kind : 1 ≤ c.kind ∧ c.kind ≤ 9
  vars : Sm c.vars
  args : Sm c.args
  bound : -999 ≤ c.bound ∧ c.bound ≤ 999
  rows : ∀ r ∈ c.rows, Sm r ∧ r.length ≤ 21
  lv : c.vars.length ≤ 4
  la : c.args.length ≤ 8
  lr : c.rows.length ≤ 8

theorem nodup_short {l : List Int} {k : Nat} (h : l.Nodup) (hb : ∀ x ∈ l, 0 ≤ x ∧ x < k) : l.length ≤ k := by
  have h1 : (l.map Int.toNat).Nodup := by
    rw [List.nodup_iff_pairwise_ne, List.pairwise_map]
    refine List.Pairwise.imp_of_mem ?_ (List.nodup_iff_pairwise_ne.1 h)
    intro a b ha hb' hne e
    have := hb a ha; have := hb b hb'
    exact hne (by omega)
  have h2 := List.Nodup.length_le_of_subset h1 (l₂ := List.range k) fun x hx => by
    obtain ⟨y, hy, rfl⟩ := List.mem_map.1 hx
    have := hb y hy
    rw [List.mem_range]; omega
  simpa using h2

theorem sm_of {l : List Int} {lo hi : Int} (h : allB lo hi l = true) (h1 : -999 ≤ lo) (h2 : hi ≤ 999) : Sm l := fun n hn => by
  have := allB_iff.1 h n hn; omega

theorem rowsIn_ok {rows : List (List Int)} {many lo hi : Int} (h : rowsInB rows many lo hi = true) (h1 : -999 ≤ lo) (h2 : hi ≤ 999) (hm : many ≤ 21) :
    (∀ r ∈ rows, Sm r ∧ r.length ≤ 21) ∧ rows.length ≤ 8 := by
  unfold rowsInB at h
  rw [Bool.and_eq_true, inB_iff, List.all_eq_true] at h
  refine ⟨fun r hr => ?_, by omega⟩
  have := h.2 r hr
  unfold rowOk eqI at this
  rw [Bool.and_eq_true, beq_iff_eq] at this
  exact ⟨sm_of this.2 h1 h2, by omega⟩

theorem con_ok {c : Con} {n : Nat} (h : validCon c n = true) : ConOk c := by
  obtain ⟨hn, hk, hr, hd, hf⟩ := validCon_iff.1 h
  have hk' : 1 ≤ c.kind ∧ c.kind ≤ 9 := Classical.byContradiction fun hx => by rw [fitsB_0 hx] at hf; cases hf
  have hv : Sm c.vars := fun x hx => by have := hr x hx; omega
  have nil : ∀ {rows : List (List Int)}, ((rows.length : Int) == 0) = true → (∀ r ∈ rows, Sm r ∧ r.length ≤ 21) ∧ rows.length ≤ 8 := by
    intro rows h
    rw [beq_iff_eq] at h
    have : rows = [] := List.eq_nil_of_length_eq_zero (by omega)
    subst this; simp
  have anil : ((c.args.length : Int) == 0) = true → Sm c.args ∧ c.args.length ≤ 8 := by
    intro h
    rw [beq_iff_eq] at h
    have : c.args = [] := List.eq_nil_of_length_eq_zero (by omega)
    rw [this]; exact ⟨fun x hx => by simp at hx, by simp⟩
  have abnd : ∀ {many lo hi : Int}, argsB c many lo hi = true → -999 ≤ lo → hi ≤ 999 → many ≤ 8 → Sm c.args ∧ c.args.length ≤ 8 := by
    intro many lo hi h h1 h2 h3
    unfold argsB eqI at h
    rw [Bool.and_eq_true, beq_iff_eq] at h
    exact ⟨sm_of h.2 h1 h2, by omega⟩
  have key : (Sm c.args ∧ c.args.length ≤ 8) ∧ (-999 ≤ c.bound ∧ c.bound ≤ 999) ∧ ((∀ r ∈ c.rows, Sm r ∧ r.length ≤ 21) ∧ c.rows.length ≤ 8) := by
    have hx : c.kind = 1 ∨ c.kind = 2 ∨ (c.kind = 3 ∨ c.kind = 9) ∨ c.kind = 4 ∨ c.kind = 5 ∨ c.kind = 6 ∨ c.kind = 7 ∨ c.kind = 8 := by omega
    rcases hx with hx | hx | hx | hx | hx | hx | hx | hx
    · rw [fitsB_1 hx] at hf
      simp only [Bool.and_eq_true] at hf
      obtain ⟨⟨a, b⟩, c'⟩ := hf
      exact ⟨abnd a (by decide) (by decide) (by omega), inB_iff.1 b, nil c'⟩
    · rw [fitsB_2 hx] at hf
      simp only [Bool.and_eq_true] at hf
      obtain ⟨⟨⟨_, a⟩, b⟩, c'⟩ := hf
      rw [beq_iff_eq] at b
      exact ⟨abnd a (by decide) (by decide) (by decide), by omega, nil c'⟩
    · rw [fitsB_3 hx] at hf
      simp only [Bool.and_eq_true] at hf
      obtain ⟨⟨a, b⟩, c'⟩ := hf
      rw [beq_iff_eq] at b
      exact ⟨anil a, by omega, nil c'⟩
    · rw [fitsB_4 hx] at hf
      simp only [Bool.and_eq_true] at hf
      obtain ⟨⟨⟨⟨_, a'⟩, a⟩, b⟩, c'⟩ := hf
      rw [beq_iff_eq] at b
      rw [inB_iff] at a'
      exact ⟨⟨sm_of a (by decide) (by decide), by omega⟩, by omega, nil c'⟩
    · rw [fitsB_5 hx] at hf
      simp only [Bool.and_eq_true] at hf
      obtain ⟨⟨a, b⟩, c'⟩ := hf
      rw [beq_iff_eq] at b
      exact ⟨anil a, by omega, rowsIn_ok c' (by decide) (by decide) (by omega)⟩
    · rw [fitsB_6 hx] at hf
      simp only [Bool.and_eq_true] at hf
      obtain ⟨⟨a, b⟩, c'⟩ := hf
      rw [inB_iff] at b
      exact ⟨abnd a (by decide) (by decide) (by decide), by omega, nil c'⟩
    · rw [fitsB_7 hx] at hf
      simp only [Bool.and_eq_true] at hf
      obtain ⟨⟨a, b⟩, c'⟩ := hf
      rw [inB_iff] at b
      exact ⟨abnd a (by decide) (by decide) (by omega), by omega, nil c'⟩
    · rw [fitsB_8 hx] at hf
      simp only [Bool.and_eq_true] at hf
      obtain ⟨⟨⟨a, b'⟩, a'⟩, b⟩ := hf
      rw [beq_iff_eq] at b
      have hl : c.rows.length ≤ 8 := by
        unfold rowsInB at a
        rw [Bool.and_eq_true, inB_iff] at a
        omega
      have hnd : c.args.Nodup := by unfold distinctB at b'; simpa using b'
      have := nodup_short (k := c.rows.length) hnd (fun x hx => by have := allB_iff.1 a' x hx; omega)
      exact ⟨⟨sm_of a' (by decide) (by omega), by omega⟩, by omega, rowsIn_ok a (by decide) (by omega) (by decide)⟩
  exact ⟨hk', hv, key.1.1, key.2.1, key.2.2.1, by omega, key.1.2, key.2.2.2⟩

theorem kw_fin : ∀ k : Fin 10, k.val ≠ 0 → kindO (kws.getD k.val []) = k.val ∧ (32 : UInt8) ∉ kws.getD k.val [] ∧ (10 : UInt8) ∉ kws.getD k.val [] ∧ (kws.getD k.val []).head? ≠ some 118 ∧ (kws.getD k.val []) ≠ [] ∧ (kws.getD k.val []).length ≤ 12 := by decide +kernel
theorem kw_ok {k : Int} (h : 1 ≤ k ∧ k ≤ 9) : kindO (kwT k) = k ∧ (32 : UInt8) ∉ kwT k ∧ (10 : UInt8) ∉ kwT k ∧ (kwT k).head? ≠ some 118 ∧ kwT k ≠ [] ∧ (kwT k).length ≤ 12 := by
  have := kw_fin ⟨k.toNat, by omega⟩ (by simp; omega)
  have e : ((k.toNat : Nat) : Int) = k := by omega
  simp only [e] at this
  exact this

theorem sp_rows : ∀ (x : Bs) (rows : List (List Int)), (32 : UInt8) ∉ x → (∀ r ∈ rows, Sm r ∧ r.length ≤ 21) → sp 32 (x ++ rowsT rows) = x :: rows.map listT
  | x, [], h, _ => by simp only [rowsT, List.map_nil, List.flatten_nil, List.append_nil]; exact sp_none 32 x h
  | x, r :: rs, h, hr => by
    have ih := sp_rows (listT r) rs (listT_free (hr r (by simp)).1).1 (fun y hy => hr y (by simp [hy]))
    unfold rowsT at ih ⊢
    rw [List.map_cons, List.flatten_cons, List.cons_append, sp_hit 32 x _ h, ih]
    rfl
theorem sp_conT {c : Con} (h : ConOk c) : sp 32 (conT c) = kwT c.kind :: listT c.vars :: listT c.args :: num c.bound :: c.rows.map listT := by
  unfold conT
  rw [sp_hit 32 _ _ (kw_ok h.kind).2.1, sp_hit 32 _ _ (listT_free h.vars).1, sp_hit 32 _ _ (listT_free h.args).1, sp_rows _ _ (num_ok h.bound).c32 h.rows]
theorem map_rdL (rows : List (List Int)) (h : ∀ r ∈ rows, Sm r ∧ r.length ≤ 21) : (rows.map listT).map (fun w => (rdL w).1) = rows ∧ (rows.map listT).all (fun w => (rdL w).2) = true ∧ (rows.map listT).map parL = rows := by
  induction rows with
  | nil => exact ⟨rfl, rfl, rfl⟩
  | cons r rs ih =>
    obtain ⟨h1, h2, h3⟩ := ih fun x hx => h x (by simp [hx])
    have hr := h r (by simp)
    simp only [List.map_cons, List.all_cons]
    rw [h1, h2, h3, rdL_listT hr.1, parL_listT hr.1 hr.2]
    exact ⟨rfl, rfl, rfl⟩
theorem atoiV_num {n : Int} (h : -999 ≤ n ∧ n ≤ 999) : atoiV (num n) = n := by
  have := (num_ok h).ato
  unfold atoiO at this
  unfold atoiV
  split at this
  · rename_i v e; rw [e]; simpa using this
  · cases this
theorem mkCon_conT {c : Con} (h : ConOk c) : mkCon (sp 32 (conT c)) = c ∧ mkOk (sp 32 (conT c)) = true := by
  obtain ⟨h1, h2, h3⟩ := map_rdL c.rows h.rows
  rw [sp_conT h]
  unfold mkCon mkOk wd
  simp only [List.getD_cons_zero, List.getD_cons_succ, List.drop_succ_cons, List.drop_zero]
  rw [h1, h2, rdL_listT h.vars, rdL_listT h.args, atoiV_num h.bound, (num_ok h.bound).ato, (kw_ok h.kind).1]
  exact ⟨rfl, rfl⟩
theorem rdC_conT {c : Con} {n : Nat} (h : validCon c n = true) : rdC (conT c) n = some c := by
  have ho := con_ok h
  obtain ⟨h1, h2⟩ := mkCon_conT ho
  have hl : (sp 32 (conT c)).length = 4 + c.rows.length := by rw [sp_conT ho]; simp; omega
  have := ho.lr
  unfold rdC
  rw [if_neg (by omega), h1, h2, if_pos ⟨rfl, h, rfl⟩]
theorem parC_conT {c : Con} {n : Nat} (h : validCon c n = true) : parC (conT c) = c := by
  have ho := con_ok h
  have hl : (sp 32 (conT c)).length = 4 + c.rows.length := by rw [sp_conT ho]; simp; omega
  have := ho.lr
  obtain ⟨_, _, h3⟩ := map_rdL c.rows ho.rows
  unfold parC
  rw [spN_sp _ _ _ (by omega), sp_conT ho, if_neg (by simp)]
  unfold wd
  simp only [List.getD_cons_zero, List.getD_cons_succ, List.drop_succ_cons, List.drop_zero]
  rw [h3, parL_listT ho.vars (by have := ho.lv; omega), parL_listT ho.args (by have := ho.la; omega), (num_ok ho.bound).par, (kw_ok ho.kind).1]

/-! ### Models -/
def varT : Bs := [118, 97, 114, 32]
def domL (d : Int) : Bs := varT ++ domT d.toNat
def encM (m : Mod) : Bs := (m.doms.map fun d => domL d ++ [10]).flatten ++ (m.cons.map fun c => conT c ++ [10]).flatten
def linesM (m : Mod) : List Bs := m.doms.map domL ++ m.cons.map conT

def decI (s : Bs) : Option Mod :=
  if 11 < (sp 10 s).length then none else
  match ((sp 10 s).takeWhile (Lib.hasPrefix · varT)).mapM (fun l => decDom (l.drop 4)) with
  | none => none
  | some ds =>
    match ((sp 10 s).dropLast.drop ((sp 10 s).takeWhile (Lib.hasPrefix · varT)).length).mapM (fun l => rdC l ds.length) with
    | none => none
    | some cs => if validM ⟨ints ds, cs⟩ = true ∧ encM ⟨ints ds, cs⟩ = s then some ⟨ints ds, cs⟩ else none

def stepS (m : Mod) (l : Bs) : Option Mod :=
  if wd (spN 32 1 l) 0 = varT.dropLast ∧ (spN 32 1 l).length = 2 ∧ m.cons.length = 0 then
    match decDom (wd (spN 32 1 l) 1) with
    | none => none
    | some d => some ⟨m.doms ++ [(d : Int)], m.cons⟩
  else some ⟨m.doms, m.cons ++ [parC l]⟩
def decS (s : Bs) : Option Mod :=
  match ((spN 10 11 s).dropLast).foldlM stepS ⟨[], []⟩ with
  | none => none
  | some m => if validM m = true ∧ encM m = s then some m else none

theorem sp_lines : ∀ (ls : List Bs), (∀ l ∈ ls, (10 : UInt8) ∉ l) → sp 10 (ls.map (· ++ [10])).flatten = ls ++ [[]]
  | [], _ => rfl
  | l :: ls, h => by
    have ih := sp_lines ls fun x hx => h x (by simp [hx])
    rw [List.map_cons, List.flatten_cons, List.append_assoc, List.singleton_append, sp_hit 10 l _ (h l (by simp)), ih]
    rfl
theorem encM_lines (m : Mod) : encM m = ((linesM m).map (· ++ [10])).flatten := by
  unfold encM linesM
  rw [List.map_append, List.flatten_append, List.map_map, List.map_map]
  rfl
theorem conT_free {c : Con} (h : ConOk c) : (10 : UInt8) ∉ conT c := by
  have hr : (10 : UInt8) ∉ rowsT c.rows := by
    unfold rowsT
    intro hm
    obtain ⟨x, hx, hb⟩ := List.mem_flatten.1 hm
    obtain ⟨r, hr, rfl⟩ := List.mem_map.1 hx
    rcases List.mem_cons.1 hb with e | e
    · exact absurd e (by decide)
    · exact (listT_free (h.rows r hr).1).2 e
  unfold conT
  intro hm
  simp only [List.mem_append, List.mem_cons] at hm
  rcases hm with e | e | e | e | e | e | e | e
  · exact (kw_ok h.kind).2.2.1 e
  · exact absurd e (by decide)
  · exact (listT_free h.vars).2 e
  · exact absurd e (by decide)
  · exact (listT_free h.args).2 e
  · exact absurd e (by decide)
  · exact (num_ok h.bound).c10 e
  · exact hr e
theorem conT_head {c : Con} (h : ConOk c) : (conT c).head? ≠ some 118 := by
  have hk := kw_ok h.kind
  unfold conT
  cases hx : kwT c.kind with
  | nil => exact absurd hx hk.2.2.2.2.1
  | cons b r => rw [hx] at hk; simpa using hk.2.2.2.1
theorem prefix_conT {c : Con} (h : ConOk c) : Lib.hasPrefix (conT c) varT = false := by
  have := conT_head h
  cases hx : conT c with
  | nil => rfl
  | cons b r =>
    rw [hx] at this
    have hb : b ≠ 118 := by simpa using this
    have hb2 : (118 == b) = false := by simpa using fun e : (118 : UInt8) = b => hb e.symm
    simp [Lib.hasPrefix, varT, List.isPrefixOf, hb2]
theorem prefix_domL (d : Int) : Lib.hasPrefix (domL d) varT = true := by
  simp [Lib.hasPrefix, varT, domL, List.isPrefixOf]
structure ModOk (m : Mod) : Prop where
  doms : ∃ D : List Nat, m.doms = ints D ∧ (∀ d ∈ D, d < 64)
  ld : 1 ≤ m.doms.length ∧ m.doms.length ≤ 4
  lc : m.cons.length ≤ 6
  con : ∀ c ∈ m.cons, validCon c m.doms.length = true
theorem mod_ok {m : Mod} (h : validM m = true) : ModOk m := by
  unfold validM domsOk at h
  simp only [Bool.and_eq_true, inB_iff, List.all_eq_true] at h
  obtain ⟨⟨⟨h1, h2⟩, h3⟩, h4⟩ := h
  have h2' := allB_iff.1 h2
  refine ⟨⟨m.doms.map Int.toNat, ?_, fun d hd => ?_⟩, by omega, by omega, h4⟩
  · unfold ints
    rw [List.map_map]
    conv => lhs; rw [← List.map_id m.doms]
    refine List.map_congr_left fun x hx => ?_
    have := h2' x hx
    simp; omega
  · obtain ⟨x, hx, rfl⟩ := List.mem_map.1 hd
    have := h2' x hx
    omega
theorem linesM_free {m : Mod} (h : ModOk m) : ∀ l ∈ linesM m, (10 : UInt8) ∉ l := by
  intro l hl
  unfold linesM at hl
  rcases List.mem_append.1 hl with hl | hl
  · obtain ⟨d, hd, rfl⟩ := List.mem_map.1 hl
    obtain ⟨D, hD, hb⟩ := h.doms
    rw [hD] at hd
    obtain ⟨k, hk, rfl⟩ := List.mem_map.1 hd
    unfold domL varT
    simp only [List.cons_append, List.nil_append, List.mem_cons, not_or]
    exact ⟨by decide, by decide, by decide, by decide, (domT_free (hb k hk)).1⟩
  · obtain ⟨c, hc, rfl⟩ := List.mem_map.1 hl
    exact conT_free (con_ok (h.con c hc))
theorem sp_encM {m : Mod} (h : ModOk m) : sp 10 (encM m) = linesM m ++ [[]] := by rw [encM_lines, sp_lines _ (linesM_free h)]
theorem takeWhile_lines {m : Mod} (h : ModOk m) : (linesM m ++ [[]]).takeWhile (Lib.hasPrefix · varT) = m.doms.map domL := by
  unfold linesM
  rw [List.append_assoc, List.takeWhile_append_of_pos (by intro l hl; obtain ⟨d, _, rfl⟩ := List.mem_map.1 hl; exact prefix_domL d)]
  have : (m.cons.map conT ++ [[]]).takeWhile (Lib.hasPrefix · varT) = [] := by
    cases hc : m.cons with
    | nil => rfl
    | cons c cs => rw [List.map_cons, List.cons_append, List.takeWhile_cons, prefix_conT (con_ok (h.con c (by rw [hc]; simp)))]; rfl
  rw [this, List.append_nil]
theorem mapM_dom : ∀ (D : List Nat), (∀ d ∈ D, d < 64) → ((ints D).map domL).mapM (fun l => decDom (l.drop 4)) = some D
  | [], _ => rfl
  | d :: D, h => by
    have ih := mapM_dom D fun x hx => h x (by simp [hx])
    have e : (domL (d : Int)).drop 4 = domT d := by simp [domL, varT]
    unfold ints at ih ⊢
    rw [List.map_cons, List.map_cons, List.mapM_cons, e, decDom_domT (h d (by simp)), ih]
    rfl
theorem mapM_con (n : Nat) : ∀ (cs : List Con), (∀ c ∈ cs, validCon c n = true) → (cs.map conT).mapM (fun l => rdC l n) = some cs
  | [], _ => rfl
  | c :: cs, h => by
    rw [List.map_cons, List.mapM_cons, rdC_conT (h c (by simp)), mapM_con n cs fun x hx => h x (by simp [hx])]
    rfl
theorem decI_encM {m : Mod} (hv : validM m = true) : decI (encM m) = some m := by
  have h := mod_ok hv
  obtain ⟨D, hD, hb⟩ := h.doms
  have hl : (linesM m ++ [[]]).length = m.doms.length + m.cons.length + 1 := by simp [linesM]; omega
  have := h.ld; have := h.lc
  have hDl : D.length = m.doms.length := by rw [hD]; simp [ints]
  have hm : (⟨ints D, m.cons⟩ : Mod) = m := by rw [← hD]
  unfold decI
  rw [sp_encM h, if_neg (by omega), takeWhile_lines h]
  have e1 : (m.doms.map domL).mapM (fun l => decDom (l.drop 4)) = some D := by rw [hD]; exact mapM_dom D hb
  rw [e1]
  simp only [List.dropLast_concat]
  have e2 : (linesM m).drop (m.doms.map domL).length = m.cons.map conT := by unfold linesM; rw [List.drop_left]
  rw [e2, hDl, mapM_con _ _ h.con]
  simp only
  rw [hm, if_pos ⟨hv, rfl⟩]
theorem decI_some {s : Bs} {m : Mod} (h : decI s = some m) : validM m = true ∧ encM m = s := by
  unfold decI at h
  split at h
  · cases h
  · split at h
    · cases h
    · split at h
      · cases h
      · split at h
        · rename_i hx; cases h; exact hx
        · cases h

theorem step_dom {d : Nat} (h : d < 64) (ds : List Int) : stepS ⟨ds, []⟩ (domL d) = some ⟨ds ++ [(d : Int)], []⟩ := by
  have e : spN 32 1 (domL d) = [varT.dropLast, domT d] := by
    have : domL (d : Int) = [118, 97, 114] ++ 32 :: domT d := by simp [domL, varT]
    rw [this, spN_hit 32 0 _ _ (by decide), spN_zero]
    rfl
  unfold stepS
  rw [e]
  simp only [wd, List.getD_cons_zero, List.getD_cons_succ, List.length_cons, List.length_nil, and_true, if_true, decDom_domT h]
theorem spN_head (c : UInt8) : ∀ (k : Nat) (l : Bs), ((spN c k l).getD 0 []).head? = l.head? ∨ (spN c k l).getD 0 [] = []
  | _, [] => .inr rfl
  | 0, b :: l => .inl rfl
  | k + 1, b :: l => by
    rw [spN]
    split
    · exact .inr rfl
    · split <;> exact .inl rfl
theorem step_con {c : Con} {n : Nat} (h : validCon c n = true) (m : Mod) : stepS m (conT c) = some ⟨m.doms, m.cons ++ [c]⟩ := by
  unfold stepS
  rw [if_neg, parC_conT h]
  rintro ⟨h1, _⟩
  have h2 := conT_head (con_ok h)
  unfold wd at h1
  rcases spN_head 32 1 (conT c) with e | e
  · rw [h1] at e; exact h2 e.symm
  · rw [h1] at e; exact absurd e (by decide)
theorem fold_dom : ∀ (D : List Nat) (ds : List Int) (ls : List Bs), (∀ d ∈ D, d < 64) → ((ints D).map domL ++ ls).foldlM stepS ⟨ds, []⟩ = ls.foldlM stepS ⟨ds ++ ints D, []⟩
  | [], ds, ls, _ => by simp [ints]
  | d :: D, ds, ls, h => by
    have ih := fold_dom D (ds ++ [(d : Int)]) ls fun x hx => h x (by simp [hx])
    have e1 : (ints (d :: D)).map domL ++ ls = domL d :: ((ints D).map domL ++ ls) := rfl
    have e2 : ints (d :: D) = (d : Int) :: ints D := rfl
    rw [e1, List.foldlM_cons, step_dom (h d (by simp))]
    simp only [Option.bind_eq_bind, Option.bind_some]
    rw [ih, e2, List.append_assoc]
    rfl
theorem fold_con {n : Nat} : ∀ (cs : List Con) (m : Mod), (∀ c ∈ cs, validCon c n = true) → (cs.map conT).foldlM stepS m = some ⟨m.doms, m.cons ++ cs⟩
  | [], m, _ => by simp
  | c :: cs, m, h => by
    rw [List.map_cons, List.foldlM_cons, step_con (h c (by simp))]
    simp only [Option.bind_eq_bind, Option.bind_some]
    rw [fold_con cs _ fun x hx => h x (by simp [hx])]
    simp
theorem decS_encM {m : Mod} (hv : validM m = true) : decS (encM m) = some m := by
  have h := mod_ok hv
  obtain ⟨D, hD, hb⟩ := h.doms
  have hl : (linesM m ++ [[]]).length = m.doms.length + m.cons.length + 1 := by simp [linesM]; omega
  have := h.ld; have := h.lc
  have hm : (⟨ints D, m.cons⟩ : Mod) = m := by rw [← hD]
  unfold decS
  rw [spN_sp _ _ _ (by rw [sp_encM h]; omega), sp_encM h, List.dropLast_concat]
  have e : linesM m = (ints D).map domL ++ m.cons.map conT := by unfold linesM; rw [hD]
  rw [e, fold_dom D [] _ hb, fold_con m.cons _ h.con]
  simp only [List.nil_append]
  rw [hm, if_pos ⟨hv, rfl⟩]
theorem decS_some {s : Bs} {m : Mod} (h : decS s = some m) : validM m = true ∧ encM m = s := by
  unfold decS at h
  split at h
  · cases h
  · split at h
    · rename_i hx; cases h; exact hx
    · cases h
/-- Both decodings are one. -/
theorem dec_eq (s : Bs) : decI s = decS s := by
  cases hi : decI s with
  | some m =>
    obtain ⟨h1, rfl⟩ := decI_some hi
    exact (decS_encM h1).symm
  | none =>
    cases hs : decS s with
    | none => rfl
    | some m =>
      obtain ⟨h1, rfl⟩ := decS_some hs
      rw [decI_encM h1] at hi
      cases hi
theorem rowsT_len : ∀ (rows : List (List Int)), (∀ r ∈ rows, Sm r ∧ r.length ≤ 21) → (rowsT rows).length ≤ 107 * rows.length
  | [], _ => by simp [rowsT]
  | r :: rs, h => by
    have ih := rowsT_len rs fun x hx => h x (by simp [hx])
    have h1 := h r (by simp)
    have h2 := listT_len h1.1
    unfold rowsT at ih ⊢
    simp only [List.map_cons, List.flatten_cons, List.length_append, List.length_cons] at ih ⊢
    omega
theorem conT_len {c : Con} (h : ConOk c) : (conT c).length ≤ 1000 := by
  have h1 := (kw_ok h.kind).2.2.2.2.2
  have h2 := listT_len h.vars; have := h.lv
  have h3 := listT_len h.args; have := h.la
  have h4 := (num_ok h.bound).len
  have h5 := rowsT_len c.rows h.rows; have := h.lr
  unfold conT
  simp only [List.length_append, List.length_cons]
  omega
def domsT (ds : List Int) : Bs := (ds.map fun d => domL d ++ [10]).flatten
def consT (cs : List Con) : Bs := (cs.map fun c => conT c ++ [10]).flatten
theorem encM_eq (m : Mod) : encM m = domsT m.doms ++ consT m.cons := rfl
theorem domsT_snoc (ds : List Int) (d : Int) : domsT (ds ++ [d]) = domsT ds ++ (domL d ++ [10]) := by simp [domsT]
theorem consT_snoc (cs : List Con) (c : Con) : consT (cs ++ [c]) = consT cs ++ (conT c ++ [10]) := by simp [consT]
theorem domsT_len : ∀ (D : List Nat), (∀ d ∈ D, d < 64) → (domsT (ints D)).length ≤ 25 * D.length
  | [], _ => by simp [domsT, ints]
  | d :: D, h => by
    have ih := domsT_len D fun x hx => h x (by simp [hx])
    have h1 := (domT_free (h d (by simp))).2.2
    unfold domsT ints at ih ⊢
    simp only [List.map_cons, List.flatten_cons, List.length_append, List.length_cons, List.length_nil, domL, varT, Int.toNat_natCast] at ih ⊢
    omega
theorem consT_len {n : Nat} : ∀ (cs : List Con), (∀ c ∈ cs, validCon c n = true) → (consT cs).length ≤ 1001 * cs.length
  | [], _ => by simp [consT]
  | c :: cs, h => by
    have ih := consT_len cs fun x hx => h x (by simp [hx])
    have h1 := conT_len (con_ok (h c (by simp)))
    unfold consT at ih ⊢
    simp only [List.map_cons, List.flatten_cons, List.length_append, List.length_cons, List.length_nil] at ih ⊢
    omega
theorem encM_len {m : Mod} (hv : validM m = true) : (encM m).length ≤ 10000 := by
  have h := mod_ok hv
  obtain ⟨D, hD, hb⟩ := h.doms
  have h1 := domsT_len D hb
  have h2 := consT_len m.cons h.con
  have := h.ld; have := h.lc
  have : D.length = m.doms.length := by rw [hD]; simp [ints]
  rw [encM_eq, List.length_append, hD]
  omega
end Go.Proofs.YtmonhpoogfdpoaaGreatDoor

set_option linter.unusedVariables false
set_option linter.unusedSimpArgs false
namespace Go.Proofs.YtmonhpoogfdpoaaGreatDoor
open Go.RowKit

/-- A string's value. -/
def str (l : Bs) : Value := .string ⟨l.toArray⟩
/-- A slice of strings. -/
def SCells (S : List Nat) (w : World) (ao : Option Addr) (xs : List Bs) : Prop :=
  ∀ i x, xs[i]? = some x → ∃ b o, ao = some ⟨b, o, none⟩ ∧ b ∉ S ∧ w.cell? ⟨b, o + i, none⟩ = some (.string ⟨x.toArray⟩)
def Strs (S : List Nat) (w : World) (v : Value) (xs : List Bs) : Prop :=
  ∃ ao cap, v = .slice ao xs.length cap ∧ (xs.length ≤ cap ∧ cap ≤ 9223372036854775807 ∧ (ao = none → cap = 0)) ∧ SCells S w ao xs
theorem SCells.gr {S : List Nat} {w w' : World} {ao : Option Addr} {xs : List Bs} (h : SCells S w ao xs) (hg : Gr S w w') : SCells S w' ao xs :=
  fun i x hi => let ⟨b, o, e, hs, hc⟩ := h i x hi; ⟨b, o, e, hs, hg.cell hc hs⟩
/-- A list of strings in a block of its own, from block B on. -/
def OwnS (B : Nat) (w : World) (e : TypeId) (v : Value) (xs : List Bs) : Prop := w.ownsRow B e 1 v xs.length (xs.map str)
theorem OwnS.gr {S : List Nat} {B : Nat} {w w' : World} {e : TypeId} {v : Value} {xs : List Bs} (h : OwnS B w e v xs) (hg : Gr S w w') (hS : ∀ b ∈ S, b < B) : OwnS B w' e v xs := hg.ownsRow h hS
theorem OwnS.alloc {B : Nat} {w : World} {e : TypeId} {v : Value} {xs : List Bs} (h : OwnS B w e v xs) (o : Obj) : OwnS B (w.alloc o) e v xs := World.ownsRow.alloc h o
theorem OwnS.empty {B : Nat} (w : World) (e : TypeId) (hB : B ≤ w.heap.size) : OwnS B (w.alloc (.cells #[] e)) e (.slice (some ⟨w.heap.size, 0, none⟩) 0 0) [] :=
  World.ownsRow_made w #[] 0 hB (by simp [maxLen]) rfl
theorem OwnS.strs {S : List Nat} {B : Nat} {w : World} {e : TypeId} {v : Value} {xs : List Bs} (h : OwnS B w e v xs) (hS : ∀ b ∈ S, b < B ∨ w.heap.size ≤ b) : Strs S w v xs := by
  obtain ⟨h1, h2⟩ := h
  rcases h2 with ⟨rfl, hl⟩ | ⟨g, cap, cur, rfl, hb, hgg, hnc, hcm, hcs, htake⟩
  · have : xs = [] := List.eq_nil_of_length_eq_zero hl
    subst this
    exact ⟨none, 0, rfl, by simp, fun i x hi => by simp at hi⟩
  · have hlt := lt_of_block hgg
    refine ⟨_, _, rfl, ⟨hnc, by simp only [maxLen] at hcm; omega, by simp⟩, fun i x hi => ⟨g, 0, rfl, fun hm => by have := hS g hm; omega, ?_⟩⟩
    have h3 : (cur.toList.take (xs.length * 1))[i]? = some (str x) := by rw [htake, List.getElem?_map, hi]; rfl
    rw [List.getElem?_take] at h3
    split at h3
    · simp only [World.cell?, hgg]; simpa [str] using h3
    · cases h3
theorem OwnS.form {B : Nat} {w : World} {e : TypeId} {v : Value} {xs : List Bs} (h : OwnS B w e v xs) : ∃ ao cap, v = .slice ao xs.length cap := by
  obtain ⟨ao, cap, e, _⟩ := h.strs (S := []) (by simp)
  exact ⟨ao, cap, e⟩
/-- 'append(out, s)' on a list of strings of the call's own. -/
theorem wp_appS1 {P : Program} {w : World} {ops : Array Oper} {rest : List Oper} {o : Oper} {a : Act} {Q : Exit → Act → World → Prop} (hgd : o.guard = none) (s x : Operand) (t t' : TypeId)
    (ho : o.op = .call { callee := .builtin .append, args := #[s, x], argTypes := #[t, t] }) (B : Nat) (e : TypeId) (hinfo : (P.info? e).map (fun i => (i.zero, i.size, i.bytes)) = some (some (.string ByteArray.empty), 1, 16))
    (ht : P.underlying t = some (.slice e)) (v : Value) (xs : List Bs) (hs : a.eval s = v) (hown : OwnS B w e v xs) (g c : Nat) (n : Bs) (hx : a.eval x = .slice (some ⟨g, 0, none⟩) 1 c) (hn : w.cell? ⟨g, 0, none⟩ = some (.string ⟨n.toArray⟩))
    (hlen : xs.length ≤ 1000000000) (hB : B ≤ w.heap.size)
    (h : ∀ v' w', OwnS B w' e v' (xs ++ [n]) → Below B w w' → wpList P ops Q rest (a.put o.dst v') w') : wpList P ops Q (o :: rest) a w := by
  obtain ⟨i0, hi, hz0, hz1, hz2⟩ := info_parts hinfo
  refine wpList_append_own w hgd s x t ho B e i0 (.string ByteArray.empty) 1 16 ht hi hz0 hz1 hz2 rfl (by decide) v xs.length _ hs hown ⟨g, 0, none⟩ 1 c [str n] hx rfl ?_ (by simp [Value.oneCell', str]) (by simp only [maxLen]; omega) (by omega) hB ?_
  · intro j u hj
    match j, hj with
    | 0, hj => simp at hj; subst hj; simpa [Addr.add, str] using hn
    | j + 1, hj => simp at hj
  · intro v' w' hown' hgrow _
    exact h v' w' (by simpa [OwnS] using hown') ((Below.refl _ _).grown hgrow hB fun k hk => (World.ownsRow.lt hown k hk).1)
/-- 'append', and where the new list lies. -/
theorem wp_appIL {P : Program} {w : World} {ops : Array Oper} {rest : List Oper} {o : Oper} {a : Act} {Q : Exit → Act → World → Prop} (hgd : o.guard = none) (s x : Operand) (t : TypeId)
    (ho : o.op = .call { callee := .builtin .append, args := #[s, x], argTypes := #[t, t] }) (B : Nat) (e : TypeId) (hinfo : (P.info? e).map (fun i => (i.zero, i.size, i.bytes)) = some (some (.int .i64 0), 1, 8))
    (ht : P.underlying t = some (.slice e)) (v : Value) (xs : List Int) (hs : a.eval s = v) (hown : Own B w e v xs) (g c : Nat) (n : Int) (hx : a.eval x = .slice (some ⟨g, 0, none⟩) 1 c) (hn : w.cell? ⟨g, 0, none⟩ = some (.int .i64 n))
    (hlen : xs.length ≤ 1000000000) (hB : B ≤ w.heap.size)
    (h : ∀ g' c' w', Own B w' e (.slice (some ⟨g', 0, none⟩) (xs.length + 1) c') (xs ++ [n]) → Gr v.ownBlock.toList w w' → (v.ownBlock = some g' ∨ w.heap.size ≤ g') → g' < w'.heap.size → wpList P ops Q rest (a.put o.dst (.slice (some ⟨g', 0, none⟩) (xs.length + 1) c')) w') : wpList P ops Q (o :: rest) a w := by
  obtain ⟨i0, hi, hz0, hz1, hz2⟩ := info_parts hinfo
  refine wpList_append_lies w hgd s x t ho B e i0 (.int .i64 0) 1 8 ht hi hz0 hz1 hz2 rfl (by decide) v xs.length _ hs hown ⟨g, 0, none⟩ 1 c [Value.int .i64 n] hx rfl ?_ (by simp [Value.oneCell', str]) (by omega) (by simp only [maxLen]; omega) (by omega) hB w.heap.size rfl ?_
  · intro j u hj
    match j, hj with
    | 0, hj => simp at hj; subst hj; simpa [Addr.add, str] using hn
    | j + 1, hj => simp at hj
  · intro g' cap' w' hown' hgrow hwhere hlt
    exact h _ _ _ (by simpa [Own] using hown') ⟨hgrow.os, hgrow.tape, hgrow.output, hgrow.size, fun k hk hs => hgrow.block k hk (fun e => hs (by rw [← e]; simp))⟩ (hwhere.imp id (fun e => by omega)) hlt
/-- 'make([]string, 0, n)'. -/
theorem wp_mkS0 {P : Program} {w : World} {ops : Array Oper} {rest : List Oper} {o : Oper} {a : Act} {Q : Exit → Act → World → Prop} (hgd : o.guard = none) (l c : Operand) (t : TypeId)
    (ho : o.op = Op.makeSlice t l c) (B : Nat) (e : TypeId) (hinfo : (P.info? e).map (fun i => (i.zero, i.size, i.bytes)) = some (some (.string ByteArray.empty), 1, 16))
    (ht : P.underlying t = some (.slice e)) (n : Nat) (hl : a.eval l = .int .i64 0) (hc : a.eval c = .int .i64 (n : Int)) (hn : n ≤ 1000000000) (hB : B ≤ w.heap.size)
    (h : ∀ w', OwnS B w' e (.slice (some ⟨w.heap.size, 0, none⟩) 0 n) [] → Gr [] w w' → wpList P ops Q rest (a.put o.dst (.slice (some ⟨w.heap.size, 0, none⟩) 0 n)) w') : wpList P ops Q (o :: rest) a w := by
  obtain ⟨i0, hi, hz0, hz1, hz2⟩ := info_parts hinfo
  refine wpList_make_own w hgd l c t ho B e i0 (.string ByteArray.empty) 1 ht hi hz0 hz1 .i64 .i64 n n hl hc rfl (by rw [hz2]; omega) (by simp only [maxLen]; omega) hB ?_
  intro w' hown hg
  exact h w' hown ((Gr.refl _ _).grown hg (by simp))
/-- Slicing and joining of strings. -/
theorem str_extract (l : Bs) (a b : Nat) : Value.string ((⟨l.toArray⟩ : ByteArray).extract a b) = .string ⟨((l.drop a).take (b - a)).toArray⟩ := by
  congr 1
  apply ByteArray.ext
  simp [ByteArray.data_extract]
theorem str_rest (l : Bs) (a : Nat) : Value.string ((⟨l.toArray⟩ : ByteArray).extract a l.length) = .string ⟨(l.drop a).toArray⟩ := by
  rw [str_extract]
  congr 3
  exact List.take_of_length_le (by simp)
theorem bs_append (a b : Bs) : (⟨a.toArray⟩ : ByteArray) ++ ⟨b.toArray⟩ = ⟨(a ++ b).toArray⟩ := by
  apply ByteArray.ext
  simp [ByteArray.data_append]
theorem bs_size (l : Bs) : (⟨l.toArray⟩ : ByteArray).size = l.length := by simp [ByteArray.size]
theorem bs_get {s : Bs} {n : Nat} {b : UInt8} (h : s[n]? = some b) (hn : n < (⟨s.toArray⟩ : ByteArray).size) : (⟨s.toArray⟩ : ByteArray)[n]'hn = b := by
  have h1 := (List.getElem?_eq_some_iff.1 h).2
  rw [← h1]
  rfl
theorem bs_lt {s : Bs} {n : Nat} (h : n < s.length) : n < (⟨s.toArray⟩ : ByteArray).size := by rw [bs_size]; exact h
theorem u8_eq (a b : UInt8) : ((a.toNat : Int) == (b.toNat : Int)) = (a == b) := by
  rw [Bool.eq_iff_iff, beq_iff_eq, beq_iff_eq]
  constructor
  · intro h; exact UInt8.toNat_inj.1 (by omega)
  · rintro rfl; rfl
theorem drop_split {s : Bs} {a n : Nat} {b : UInt8} (h : s[n]? = some b) (ha : a ≤ n) : s.drop a = (s.drop a).take (n - a) ++ b :: s.drop (n + 1) := by
  have h1 : s.drop n = b :: s.drop (n + 1) := by
    have := (List.getElem?_eq_some_iff.1 h)
    obtain ⟨hl, e⟩ := this
    rw [List.drop_eq_getElem_cons hl, e]
  rw [← h1]
  have : s.drop n = (s.drop a).drop (n - a) := by rw [List.drop_drop]; congr 1; omega
  rw [this, List.take_append_drop]
theorem take_snoc {s : Bs} {a n : Nat} {b : UInt8} (h : s[n]? = some b) (ha : a ≤ n) : (s.drop a).take (n + 1 - a) = (s.drop a).take (n - a) ++ [b] := by
  rw [show n + 1 - a = (n - a) + 1 by omega, List.take_add_one, List.getElem?_drop, show a + (n - a) = n by omega, h]
  rfl
theorem bs_inj {a b : Bs} : ((⟨a.toArray⟩ : ByteArray) = ⟨b.toArray⟩) ↔ a = b := by simp
end Go.Proofs.YtmonhpoogfdpoaaGreatDoor
