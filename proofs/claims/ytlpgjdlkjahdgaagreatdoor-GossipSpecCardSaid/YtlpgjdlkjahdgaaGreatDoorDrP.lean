/- the directory, plainly: what the functions of chapter 35 compute, and what its laws say of them; no program but the words for signatures -/
import Derived.Test.YtlpgjdlkjahdgaaGreatDoorVss
import Derived.Test.YtlpgjdlkjahdgaaGreatDoorDrD
namespace Go.Dr
open Go.Proofs.YtlpgjdlkjahdgaaGreatDoor (verB signK keyOk pubB ver_sign)

structure Rt where
  no : Int
  dig : List Nat
  prev : List Nat
  r : Int
  s : Int
structure Dir where
  priv : Int
  ls : List Lst
  rs : List Rt
def zd : List Nat := List.replicate 32 0
def zeroL : Lst := ⟨0, 0, 0, 0, false⟩
def zeroR : Rt := ⟨0, zd, zd, 0, 0⟩
def zeroDir : Dir := ⟨0, [], []⟩
def eqR (a b : Rt) : Bool := decide (a.no = b.no ∧ a.dig = b.dig ∧ a.prev = b.prev ∧ a.r = b.r ∧ a.s = b.s)
theorem eqR_iff {a b : Rt} : eqR a b = true ↔ a = b := by
  unfold eqR
  rw [decide_eq_true_iff]
  constructor
  · rintro ⟨h1, h2, h3, h4, h5⟩
    cases a; cases b
    simp only at h1 h2 h3 h4 h5
    subst h1 h2 h3 h4 h5
    rfl
  · rintro rfl; exact ⟨rfl, rfl, rfl, rfl, rfl⟩
theorem eqR_refl (a : Rt) : eqR a a = true := eqR_iff.2 rfl
theorem eqR_ne {a b : Rt} (h : a ≠ b) : eqR a b = false := by
  cases e : eqR a b with
  | false => rfl
  | true => exact absurd (eqR_iff.1 e) h

def fitsB (x : Lst) : Bool := decide (0 ≤ x.dev ∧ x.dev < 512) && Grp.ok x.ver && Grp.ok x.leaf && decide (1 ≤ x.vers ∧ x.vers ≤ 1048576)
def chkGo : Int → List Lst → Bool
  | _, [] => true
  | p, x :: r => fitsB x && decide (p < x.dev) && chkGo x.dev r
def chkL (l : List Lst) : Bool := chkGo (-1) l
def leafOf (x : Lst) (none : Bool) : List Nat := if none then noneD x.dev else listD x
def msgR (r : Rt) : List Nat := num8 r.no ++ r.dig ++ r.prev
def idR (r : Rt) : List Nat := Sha.tagged [114, 111, 111, 116] (msgR r ++ num8 r.r ++ num8 r.s)
def signedB (b pub : Int) (r : Rt) : Bool := decide (1 ≤ r.no ∧ r.no ≤ 65536) && verB b pub (msgR r) r.r r.s
def prevOf (l : List Rt) : List Nat := match l.getLast? with | none => zd | some r => idR r
def baseR (D : Dir) : Rt := ⟨(D.rs.length : Int) + 1, rootD D.ls, prevOf D.rs, 0, 0⟩
def nextR (b : Int) (D : Dir) : Rt := { baseR D with r := (signK b D.priv (msgR (baseR D))).1, s := (signK b D.priv (msgR (baseR D))).2.1 }
def tickD (b : Int) (D : Dir) : Dir × Int :=
  if keyOk D.priv then (if chkL D.ls then (if D.rs.length < 65536 then ({ D with rs := D.rs ++ [nextR b D] }, 0) else (zeroDir, 2)) else (zeroDir, 350)) else (zeroDir, 50)
def insL (x : Lst) : List Lst → List Lst
  | [] => [x]
  | y :: r => if y.dev < x.dev then y :: insL x r else if y.dev = x.dev then x :: r else x :: y :: r
def oldV (l : List Lst) (dev : Int) : Int := match ofL l dev with | some y => y.vers | none => 0
def setD (b : Int) (D : Dir) (x : Lst) : Dir × Int :=
  if keyOk D.priv then (if chkL D.ls then (if fitsB x && decide (x.vers = oldV D.ls x.dev + 1) then tickD b { D with ls := insL x D.ls } else (zeroDir, 350)) else (zeroDir, 350)) else (zeroDir, 50)
def newD (k : Int) : Dir × Int := if keyOk k then (⟨k, [], []⟩, 0) else (zeroDir, 50)

/-! ### paths -/
def climbD : Nat → List Nat → List (List Nat) → List Nat
  | _, d, [] => d
  | n, d, x :: p => climbD (n / 2) (if n % 2 = 0 then pairD d x else pairD x d) p
def verP (root : List Nat) (x : Lst) (none : Bool) (path : List (List Nat)) : Bool :=
  decide (0 ≤ x.dev ∧ x.dev < 512) && decide (path.length = 9) && decide (climbD (512 + x.dev.toNat) (leafOf x none) path = root)
def sib (n : Nat) : Nat := if n % 2 = 0 then n + 1 else n - 1
def pathGo (l : List Lst) : Nat → Nat → Nat → List (List Nat)
  | 0, _, _ => []
  | s + 1, k, n => nodeD l k (sib n) :: pathGo l s (k + 1) (n / 2)
def pathD (l : List Lst) (dev : Int) : List (List Nat) := pathGo l 9 0 (512 + dev.toNat)
def coGo : Nat → Nat → List Nat
  | 0, _ => []
  | s + 1, n => sib n :: coGo s (n / 2)
def coD (dev : Int) : List Nat := coGo 9 (512 + dev.toNat)
def proveD (l : List Lst) (dev : Int) : List (List Nat) × Int := if 0 ≤ dev ∧ dev < 512 then (pathD l dev, 0) else ([], 200)
theorem pathGo_length (l : List Lst) : ∀ s k n, (pathGo l s k n).length = s
  | 0, _, _ => rfl
  | s + 1, k, n => by rw [pathGo, List.length_cons, pathGo_length l s]
theorem coGo_length : ∀ s n, (coGo s n).length = s
  | 0, _ => rfl
  | s + 1, n => by rw [coGo, List.length_cons, coGo_length s]
theorem nodeD_length (l : List Lst) : ∀ d n, (nodeD l d n).length = 32
  | 0, n => by unfold nodeD leafD; split <;> exact Sha.tagged_length _ _
  | d + 1, n => Sha.tagged_length _ _
theorem nodeD_lt (l : List Lst) : ∀ d n, ∀ u ∈ nodeD l d n, u < 256
  | 0, n => by unfold nodeD leafD; split <;> exact Sha.tagged_lt _ _
  | d + 1, n => Sha.tagged_lt _ _
theorem nodeD_up (l : List Lst) (k n : Nat) : (if n % 2 = 0 then pairD (nodeD l k n) (nodeD l k (sib n)) else pairD (nodeD l k (sib n)) (nodeD l k n)) = nodeD l (k + 1) (n / 2) := by
  unfold sib
  rw [nodeD]
  split
  · rename_i h
    rw [show 2 * (n / 2) = n by omega]
  · rename_i h
    rw [show 2 * (n / 2) + 1 = n by omega, show 2 * (n / 2) = n - 1 by omega]
theorem climb_path (l : List Lst) : ∀ s k n, climbD n (nodeD l k n) (pathGo l s k n) = nodeD l (k + s) (n / 2 ^ s)
  | 0, k, n => by rw [pathGo, climbD, Nat.pow_zero, Nat.div_one, Nat.add_zero]
  | s + 1, k, n => by
    rw [pathGo, climbD, nodeD_up, climb_path l s, Nat.div_div_eq_div_mul, Nat.pow_succ, Nat.mul_comm 2, show k + 1 + s = k + (s + 1) by omega]
theorem verP_path {l : List Lst} {x : Lst} {none : Bool} (h : 0 ≤ x.dev ∧ x.dev < 512) (hx : leafOf x none = leafD l x.dev) : verP (rootD l) x none (pathD l x.dev) = true := by
  unfold verP pathD
  rw [decide_eq_true h, pathGo_length, hx]
  have e : leafD l x.dev = nodeD l 0 (512 + x.dev.toNat) := by unfold nodeD; congr 1; omega
  rw [e, climb_path, show (512 + x.dev.toNat) / 2 ^ 9 = 1 by omega]
  simp [rootD]
theorem leaf_some {l : List Lst} {x : Lst} {dev : Int} (h : ofL l dev = some x) : x.dev = dev ∧ leafOf x false = leafD l dev := by
  refine ⟨by simpa using List.find?_some h, ?_⟩
  unfold leafD
  rw [h]
  rfl
theorem leaf_none {l : List Lst} {x : Lst} (h : ofL l x.dev = none) : leafOf x true = leafD l x.dev := by
  unfold leafD
  rw [h]
  rfl

/-! ### setting a listing -/
theorem ofL_ins (x : Lst) (d : Int) : ∀ l : List Lst, ofL (insL x l) d = if d = x.dev then some x else ofL l d
  | [] => by
    unfold insL ofL
    by_cases h : d = x.dev
    · subst h; simp
    · rw [if_neg h, List.find?_cons_of_neg (by simpa using fun e => h e.symm)]
  | y :: r => by
    unfold insL
    split
    · rename_i h
      by_cases hy : y.dev = d
      · subst hy
        rw [if_neg (by omega)]
        unfold ofL
        rw [List.find?_cons_of_pos (by simp), List.find?_cons_of_pos (by simp)]
      · have ih := ofL_ins x d r
        unfold ofL at ih ⊢
        rw [List.find?_cons_of_neg (by simpa using hy), ih, List.find?_cons_of_neg (by simpa using hy)]
    · split
      · rename_i h1 h
        unfold ofL
        by_cases hd : d = x.dev
        · subst hd
          rw [if_pos rfl, List.find?_cons_of_pos (by simp)]
        · rw [if_neg hd, List.find?_cons_of_neg (by simpa using fun e => hd e.symm), List.find?_cons_of_neg (by simp; omega)]
      · unfold ofL
        by_cases hd : d = x.dev
        · subst hd
          rw [if_pos rfl, List.find?_cons_of_pos (by simp)]
        · rw [if_neg hd, List.find?_cons_of_neg (by simpa using fun e => hd e.symm)]
theorem chkGo_cons {p : Int} {x : Lst} {r : List Lst} : chkGo p (x :: r) = true ↔ fitsB x = true ∧ p < x.dev ∧ chkGo x.dev r = true := by
  rw [chkGo, Bool.and_eq_true, Bool.and_eq_true, decide_eq_true_iff, and_assoc]
theorem chk_ins {x : Lst} (hx : fitsB x = true) : ∀ {l : List Lst} {p : Int}, p < x.dev → chkGo p l = true → chkGo p (insL x l) = true
  | [], p, hp, _ => by rw [insL, chkGo_cons]; exact ⟨hx, hp, rfl⟩
  | y :: r, p, hp, h => by
    rw [chkGo_cons] at h
    unfold insL
    split
    · rename_i hy
      rw [chkGo_cons]
      exact ⟨h.1, h.2.1, chk_ins hx hy h.2.2⟩
    · split
      · rename_i h1 hy
        rw [chkGo_cons]
        exact ⟨hx, hp, by rw [← hy]; exact h.2.2⟩
      · rw [chkGo_cons, chkGo_cons]
        exact ⟨hx, hp, h.1, by omega, h.2.2⟩
theorem fits_dev {x : Lst} (h : fitsB x = true) : 0 ≤ x.dev ∧ x.dev < 512 := by
  unfold fitsB at h
  simp only [Bool.and_eq_true, decide_eq_true_iff] at h
  exact h.1.1.1
theorem fits_vers {x : Lst} (h : fitsB x = true) : 1 ≤ x.vers ∧ x.vers ≤ 1048576 := by
  unfold fitsB at h
  simp only [Bool.and_eq_true, decide_eq_true_iff] at h
  exact h.2
theorem chk_insL {x : Lst} {l : List Lst} (hx : fitsB x = true) (h : chkL l = true) : chkL (insL x l) = true := chk_ins hx (by have := fits_dev hx; omega) h
theorem chk_lt : ∀ {l : List Lst} {p : Int}, chkGo p l = true → ∀ (i : Nat) (x : Lst), l[i]? = some x → p < x.dev ∧ fitsB x = true
  | [], _, _, i, x, h => by simp at h
  | y :: r, p, h, 0, x, e => by
    rw [chkGo_cons] at h
    simp only [List.getElem?_cons_zero, Option.some.injEq] at e
    subst e
    exact ⟨h.2.1, h.1⟩
  | y :: r, p, h, i + 1, x, e => by
    rw [chkGo_cons] at h
    have := chk_lt h.2.2 i x (by simpa using e)
    exact ⟨by omega, this.2⟩
theorem chk_sorted : ∀ {l : List Lst} {p : Int}, chkGo p l = true → ∀ {i j : Nat} {x y : Lst}, i < j → l[i]? = some x → l[j]? = some y → x.dev < y.dev
  | [], _, _, i, j, x, y, _, h, _ => by simp at h
  | z :: r, p, h, 0, 0, x, y, hij, _, _ => by omega
  | z :: r, p, h, 0, j + 1, x, y, _, hx, hy => by
    rw [chkGo_cons] at h
    simp only [List.getElem?_cons_zero, Option.some.injEq] at hx
    subst hx
    exact (chk_lt h.2.2 j y (by simpa using hy)).1
  | z :: r, p, h, i + 1, 0, x, y, hij, _, _ => by omega
  | z :: r, p, h, i + 1, j + 1, x, y, hij, hx, hy => by
    rw [chkGo_cons] at h
    exact chk_sorted (i := i) (j := j) h.2.2 (by omega) (by simpa using hx) (by simpa using hy)
/-- where a device's listing stands, or belongs. -/
def posL (dev : Int) (l : List Lst) : Nat := l.findIdx (fun y => decide (dev ≤ y.dev))
def hasL (dev : Int) (l : List Lst) : Bool := match l[posL dev l]? with | some y => decide (y.dev = dev) | none => false
theorem insL_at (x : Lst) : ∀ {l : List Lst} {p : Int}, chkGo p l = true → insL x l = if hasL x.dev l then l.set (posL x.dev l) x else l.take (posL x.dev l) ++ x :: l.drop (posL x.dev l)
  | [], _, _ => rfl
  | y :: r, p, h => by
    rw [chkGo_cons] at h
    unfold insL
    by_cases h1 : y.dev < x.dev
    · have ih := insL_at x h.2.2
      have hp : posL x.dev (y :: r) = posL x.dev r + 1 := by unfold posL; rw [List.findIdx_cons, decide_eq_false (by omega)]; rfl
      have hh : hasL x.dev (y :: r) = hasL x.dev r := by unfold hasL; rw [hp, List.getElem?_cons_succ]
      rw [if_pos h1, ih, hp, hh]
      split <;> simp
    · have hp : posL x.dev (y :: r) = 0 := by unfold posL; rw [List.findIdx_cons, decide_eq_true (by omega)]; rfl
      have hh : hasL x.dev (y :: r) = decide (y.dev = x.dev) := by unfold hasL; rw [hp, List.getElem?_cons_zero]
      rw [if_neg h1, hp, hh]
      by_cases h2 : y.dev = x.dev
      · rw [if_pos h2, if_pos (by simpa using h2)]; rfl
      · rw [if_neg h2, if_neg (by simpa using h2)]; rfl
theorem posL_le (dev : Int) (l : List Lst) : posL dev l ≤ l.length := List.findIdx_le_length
theorem posL_eq {dev : Int} {l : List Lst} {i : Nat} (hi : i ≤ l.length) (hlo : ∀ p t, p < i → l[p]? = some t → t.dev < dev) (hhi : ∀ t, l[i]? = some t → dev ≤ t.dev) : posL dev l = i := by
  unfold posL
  by_cases h : i < l.length
  · rw [List.findIdx_eq h]
    refine ⟨by simpa using hhi _ (List.getElem?_eq_getElem h), fun j hj => ?_⟩
    have := hlo j l[j] hj (List.getElem?_eq_getElem (by omega))
    simpa using this
  · rw [show i = l.length by omega]
    refine List.findIdx_eq_length.2 fun x hx => ?_
    obtain ⟨j, hj⟩ := List.mem_iff_getElem?.1 hx
    have := hlo j x (by have := (List.getElem?_eq_some_iff.1 hj).1; omega) hj
    simpa using this

/-! ### roots -/
theorem nextR_msg (b : Int) (D : Dir) : msgR (nextR b D) = msgR (baseR D) := rfl
theorem next_signed {b : Int} {D : Dir} (hb : Grp.ok b = true) (hk : keyOk D.priv = true) (hn : D.rs.length < 65536) : signedB b (pubB b D.priv) (nextR b D) = true := by
  obtain ⟨R, S, h1, h2⟩ := ver_sign hb hk (msgR (baseR D))
  unfold signedB
  rw [nextR_msg]
  have e1 : (nextR b D).r = R := by show (signK b D.priv (msgR (baseR D))).1 = R; rw [h1]
  have e2 : (nextR b D).s = S := by show (signK b D.priv (msgR (baseR D))).2.1 = S; rw [h1]
  have e3 : (nextR b D).no = (D.rs.length : Int) + 1 := rfl
  rw [e1, e2, e3, h2, decide_eq_true (by omega)]
  rfl
/-- a list of roots that Tick has made. -/
def Hist (b pub : Int) (rs : List Rt) : Prop := ∀ (i : Nat) (r : Rt), rs[i]? = some r → r.no = (i : Int) + 1 ∧ r.prev = prevOf (rs.take i) ∧ signedB b pub r = true
theorem hist_nil (b pub : Int) : Hist b pub [] := fun i r h => by simp at h
theorem hist_snoc {b pub : Int} {rs : List Rt} {q : Rt} (H : Hist b pub rs) (h1 : q.no = (rs.length : Int) + 1) (h2 : q.prev = prevOf rs) (h3 : signedB b pub q = true) : Hist b pub (rs ++ [q]) := by
  intro i r hr
  by_cases hi : i < rs.length
  · rw [List.getElem?_append_left hi] at hr
    obtain ⟨a, c, d⟩ := H i r hr
    exact ⟨a, by rw [List.take_append_of_le_length (by omega)]; exact c, d⟩
  · rw [List.getElem?_append_right (by omega)] at hr
    have h0 : i - rs.length = 0 := by
      cases h : i - rs.length with
      | zero => rfl
      | succ k => rw [h] at hr; simp at hr
    rw [h0, List.getElem?_cons_zero, Option.some.injEq] at hr
    subst hr
    have : i = rs.length := by omega
    subst this
    exact ⟨h1, by rw [List.take_left']; exact h2; rfl, h3⟩
theorem prevOf_take {rs : List Rt} {i : Nat} {r : Rt} (h : rs[i]? = some r) : prevOf (rs.take (i + 1)) = idR r := by
  unfold prevOf
  have hi := (List.getElem?_eq_some_iff.1 h).1
  rw [List.take_add_one, h, Option.toList_some, List.getLast?_concat]
/-- a directory that New, Set and Tick have made. -/
structure Hs (b k : Int) (D : Dir) : Prop where
  priv : D.priv = k
  chk : chkL D.ls = true
  hist : Hist b (pubB b k) D.rs
  last : D.rs ≠ [] → ∀ r, D.rs.getLast? = some r → r.dig = rootD D.ls
theorem hs_new (b k : Int) : Hs b k ⟨k, [], []⟩ := ⟨rfl, rfl, hist_nil _ _, fun h => absurd rfl h⟩
theorem tick_ok {b : Int} {D : Dir} (hk : keyOk D.priv = true) (hc : chkL D.ls = true) (hn : D.rs.length < 65536) : tickD b D = ({ D with rs := D.rs ++ [nextR b D] }, 0) := by
  unfold tickD; rw [if_pos hk, if_pos hc, if_pos hn]
theorem hs_tick {b k : Int} {D : Dir} (hb : Grp.ok b = true) (hk : keyOk k = true) (H : Hs b k D) (hn : D.rs.length < 65536) : tickD b D = ({ D with rs := D.rs ++ [nextR b D] }, 0) ∧ Hs b k { D with rs := D.rs ++ [nextR b D] } := by
  have hp := H.priv
  refine ⟨tick_ok (by rw [hp]; exact hk) H.chk hn, H.priv, H.chk, hist_snoc H.hist rfl rfl ?_, fun _ r hr => ?_⟩
  · rw [← hp]; exact next_signed hb (by rw [hp]; exact hk) hn
  · rw [List.getLast?_concat, Option.some.injEq] at hr
    subst hr
    rfl
/-- Set: it is refused, or the next root is there. -/
theorem hs_set {b k : Int} {D : Dir} (hb : Grp.ok b = true) (hk : keyOk k = true) (H : Hs b k D) (hn : D.rs.length < 65536) (x : Lst) :
    (setD b D x = (zeroDir, 350)) ∨ ∃ E, setD b D x = (E, 0) ∧ Hs b k E ∧ E.rs.length = D.rs.length + 1 := by
  obtain ⟨q, ls, rs⟩ := D
  obtain rfl : q = k := H.priv
  have hcl : chkL ls = true := H.chk
  have hi : Hist b (pubB b q) rs := H.hist
  have hn' : rs.length < 65536 := hn
  unfold setD
  simp only [hk, hcl, if_true]
  by_cases hx : (fitsB x && decide (x.vers = oldV ls x.dev + 1)) = true
  · rw [if_pos hx]
    rw [Bool.and_eq_true] at hx
    have hc := chk_insL hx.1 hcl
    refine .inr ⟨⟨q, insL x ls, rs ++ [nextR b ⟨q, insL x ls, rs⟩]⟩, tick_ok (D := ⟨q, insL x ls, rs⟩) hk hc hn', ⟨rfl, hc, hist_snoc hi rfl rfl ?_, fun _ r hr => ?_⟩, by simp⟩
    · exact next_signed (D := ⟨q, insL x ls, rs⟩) hb hk hn'
    · rw [List.getLast?_concat, Option.some.injEq] at hr
      subst hr
      rfl
  · rw [if_neg hx]
    exact .inl rfl
/-- Set, where it is accepted. -/
theorem set_ok {b : Int} {D E : Dir} {x : Lst} (h : setD b D x = (E, 0)) : fitsB x = true ∧ x.vers = oldV D.ls x.dev + 1 ∧ chkL D.ls = true ∧ D.rs.length < 65536 ∧ keyOk D.priv = true ∧ E = ⟨D.priv, insL x D.ls, D.rs ++ [nextR b ⟨D.priv, insL x D.ls, D.rs⟩]⟩ := by
  unfold setD at h
  split at h
  · rename_i h1
    split at h
    · rename_i h2
      split at h
      · rename_i h3
        unfold tickD at h
        rw [if_pos (by exact h1)] at h
        split at h
        · split at h
          · rename_i h5
            rw [Bool.and_eq_true, decide_eq_true_iff] at h3
            cases h
            exact ⟨h3.1, h3.2, h2, h5, h1, rfl⟩
          · cases h
        · cases h
      · cases h
    · cases h
  · cases h
theorem set_err {b : Int} {D : Dir} {x : Lst} (h : (setD b D x).2 ≠ 0) : (setD b D x).1 = zeroDir := by
  unfold setD tickD at *
  repeat' split
  all_goals (first | rfl | simp_all)
end Go.Dr
