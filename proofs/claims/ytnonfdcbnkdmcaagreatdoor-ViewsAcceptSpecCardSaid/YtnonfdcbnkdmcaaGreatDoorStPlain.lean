/- the store, plainly: entries, logs, stores; what the functions of chapter 30 compute; no program -/
import Derived.Test.YtnonfdcbnkdmcaaGreatDoorShaPlain
namespace Go.Sto

structure Ent where
 kind : Int
 dig : List Nat
 data : List Nat
 gone : Bool
structure Lg where
 folder : Int
 es : List Ent
structure St where
 id : Int
 priv : Int
 logs : List Lg

def kindB (k : Int) : Bool := decide (1 ≤ k ∧ k ≤ 7)
def folderB (f : Int) : Bool := decide (0 ≤ f ∧ f < 16)
def keyB (x : Int) : Bool := decide (1 ≤ x ∧ x < 2305843009213688669)
def entD (kind : Int) (data : List Nat) : List Nat := Sha.tagged [101, 110, 116, 114, 121] ([(kind % 256).toNat] ++ data)
def goneB (e : Ent) : Bool := decide (e.kind = 4) && decide (e.data.length = 0)
def keptB (e : Ent) : Bool := kindB e.kind && decide (e.dig = entD e.kind e.data)
def entB (e : Ent) : Bool := if e.gone then goneB e else keptB e
def fineGo (met : List (List Nat)) : List Ent → Bool
 | [] => true
 | e :: r => if e.dig ∈ met then false else if entB e then fineGo (met ++ [e.dig]) r else false
def fineB (l : List Ent) : Bool := fineGo [] l && decide (0 < l.length ∧ l.length ≤ 65536)
def logsB (p : Int) : List Lg → Bool
 | [] => true
 | x :: r => folderB x.folder && decide (p < x.folder) && fineB x.es && logsB x.folder r
def newE (id priv : Int) : Int := if 0 ≤ id ∧ id < 4 then (if keyB priv then 0 else 50) else 300
def chkS (s : St) : Int := if newE s.id s.priv = 0 ∧ logsB (-1) s.logs = true then 0 else 300
def openE (s : St) (f : Int) : Int := if chkS s = 0 then (if folderB f then 0 else 1) else 300
def zeroS : St := ⟨0, 0, []⟩
def idxE (d : List Nat) (l : List Ent) : Nat := l.findIdx (fun e => decide (e.dig = d))
/-! ### what the valid stores are -/
theorem idxE_lt {d : List Nat} {l : List Ent} (h : idxE d l < l.length) : ∃ e, l[idxE d l]? = some e ∧ e.dig = d := by
 refine ⟨l[idxE d l], List.getElem?_eq_getElem h, ?_⟩
 have := List.findIdx_getElem (p := fun e : Ent => decide (e.dig = d)) (w := h)
 exact of_decide_eq_true this
theorem idxE_at {d : List Nat} {l : List Ent} {i : Nat} {e : Ent} (h : l[i]? = some e) (hd : e.dig = d) (hn : ∀ j x, j < i → l[j]? = some x → x.dig ≠ d) : idxE d l = i := by
 have hi := (List.getElem?_eq_some_iff.1 h).1
 have h1 : idxE d l ≤ i := by
  refine Nat.le_of_not_lt fun hlt => ?_
  have := List.not_of_lt_findIdx (p := fun e : Ent => decide (e.dig = d)) (xs := l) hlt
  rw [show l[i] = e from Option.some.inj ((List.getElem?_eq_getElem hi).symm.trans h)] at this
  simp [hd] at this
 refine Nat.le_antisymm h1 (Nat.le_of_not_lt fun hlt => ?_)
 obtain ⟨x, hx, hxd⟩ := idxE_lt (d := d) (l := l) (by omega)
 exact hn _ x hlt hx hxd

/-! ### the logs -/
/-! ### where a log is -/
def pos (f : Int) : List Lg → Nat
 | [] => 0
 | x :: r => if x.folder < f then pos f r + 1 else 0
end Go.Sto

