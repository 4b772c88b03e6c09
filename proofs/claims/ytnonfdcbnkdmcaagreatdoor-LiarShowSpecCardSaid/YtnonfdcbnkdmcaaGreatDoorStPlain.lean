/- the store, plainly: entries, logs, stores; what the functions of chapter 30 compute; no program -/
import Derived.Test.YtnonfdcbnkdmcaaGreatDoorShaPlain
namespace Go.Sto

structure Ent where
 kind : Int
 dig : List Nat
 data : List Nat
 gone : Bool
structure Lg where
 folder : Int
 es : List Ent
structure St where
 id : Int
 priv : Int
 logs : List Lg

def kindB (k : Int) : Bool := decide (1 ≤ k ∧ k ≤ 7)
def folderB (f : Int) : Bool := decide (0 ≤ f ∧ f < 16)
def keyB (x : Int) : Bool := decide (1 ≤ x ∧ x < 2305843009213688669)
def entD (kind : Int) (data : List Nat) : List Nat := Sha.tagged [101, 110, 116, 114, 121] ([(kind % 256).toNat] ++ data)
def goneB (e : Ent) : Bool := decide (e.kind = 4) && decide (e.data.length = 0)
def keptB (e : Ent) : Bool := kindB e.kind && decide (e.dig = entD e.kind e.data)
def entB (e : Ent) : Bool := if e.gone then goneB e else keptB e
def fineGo (met : List (List Nat)) : List Ent → Bool
 | [] => true
 | e :: r => if e.dig ∈ met then false else if entB e then fineGo (met ++ [e.dig]) r else false
def fineB (l : List Ent) : Bool := fineGo [] l && decide (0 < l.length ∧ l.length ≤ 65536)
def logsB (p : Int) : List Lg → Bool
 | [] => true
 | x :: r => folderB x.folder && decide (p < x.folder) && fineB x.es && logsB x.folder r
def newE (id priv : Int) : Int := if 0 ≤ id ∧ id < 4 then (if keyB priv then 0 else 50) else 300
def chkS (s : St) : Int := if newE s.id s.priv = 0 ∧ logsB (-1) s.logs = true then 0 else 300
def openE (s : St) (f : Int) : Int := if chkS s = 0 then (if folderB f then 0 else 1) else 300
def entsL (f : Int) : List Lg → List Ent
 | [] => []
 | x :: r => if x.folder = f then x.es else entsL f r
def ents (s : St) (f : Int) : List Ent := entsL f s.logs
def insL (f : Int) (l : List Ent) : List Lg → List Lg
 | [] => [⟨f, l⟩]
 | x :: r => if x.folder < f then x :: insL f l r else if x.folder = f then ⟨f, l⟩ :: r else ⟨f, l⟩ :: x :: r
def replS (s : St) (f : Int) (l : List Ent) : St := ⟨s.id, s.priv, insL f l s.logs⟩
def zeroS : St := ⟨0, 0, []⟩
def idxE (d : List Nat) (l : List Ent) : Nat := l.findIdx (fun e => decide (e.dig = d))
def putE (l : List Ent) (kind : Int) (data : List Nat) : List Ent := l ++ [⟨kind, entD kind data, data, false⟩]
def putS (s : St) (f kind : Int) (data : List Nat) : St × Int × Int :=
 if openE s f = 0 then
  if kindB kind then
   if idxE (entD kind data) (ents s f) < (ents s f).length then (s, idxE (entD kind data) (ents s f) + 1, 0)
   else if (ents s f).length = 65536 then (zeroS, 0, 2)
   else (replS s f (putE (ents s f) kind data), (ents s f).length + 1, 0)
  else (zeroS, 0, 1)
 else (zeroS, 0, openE s f)
def fetchS (s : St) (f from_ : Int) : List Ent × Int :=
 if openE s f = 0 then
  if 1 ≤ from_ ∧ from_ ≤ (ents s f).length + 1 then ((ents s f).drop (from_ - 1).toNat, 0) else ([], 1)
 else ([], openE s f)
/-! ### what the valid stores are -/
theorem fineGo_iff : ∀ (l : List Ent) (met : List (List Nat)), fineGo met l = true ↔ (∀ e ∈ l, entB e = true) ∧ (l.map (·.dig)).Nodup ∧ ∀ e ∈ l, e.dig ∉ met
 | [], met => by simp [fineGo]
 | e :: r, met => by
  unfold fineGo
  by_cases h1 : e.dig ∈ met
  · simp [h1]
  · rw [if_neg h1]
    cases h2 : entB e
    · simp [h2]
    · simp only [if_true, fineGo_iff r, List.map_cons, List.nodup_cons, List.mem_cons, List.mem_append, List.not_mem_nil, or_false, List.mem_map, forall_eq_or_imp, h2, true_and]
      constructor
      · rintro ⟨a, b, c⟩
        refine ⟨a, ⟨?_, b⟩, h1, fun x hx hm => c x hx (.inl hm)⟩
        rintro ⟨x, hx, hd⟩
        exact c x hx (.inr hd)
      · rintro ⟨a, ⟨b1, b2⟩, _, c⟩
        refine ⟨a, b2, fun x hx hm => ?_⟩
        rcases hm with hm | hm
        · exact c x hx hm
        · exact b1 ⟨x, hx, hm⟩

theorem fineB_iff (l : List Ent) : fineB l = true ↔ (∀ e ∈ l, entB e = true) ∧ (l.map (·.dig)).Nodup ∧ 0 < l.length ∧ l.length ≤ 65536 := by
 unfold fineB
 rw [Bool.and_eq_true, fineGo_iff, decide_eq_true_iff]
 simp only [List.not_mem_nil, not_false_eq_true, implies_true, and_true]
 exact and_assoc

theorem idxE_lt {d : List Nat} {l : List Ent} (h : idxE d l < l.length) : ∃ e, l[idxE d l]? = some e ∧ e.dig = d := by
 refine ⟨l[idxE d l], List.getElem?_eq_getElem h, ?_⟩
 have := List.findIdx_getElem (p := fun e : Ent => decide (e.dig = d)) (w := h)
 exact of_decide_eq_true this
theorem idxE_not {d : List Nat} {l : List Ent} (h : ¬ idxE d l < l.length) : d ∉ l.map (·.dig) := by
 intro hm
 obtain ⟨e, he, hd⟩ := List.mem_map.1 hm
 exact h (List.findIdx_lt_length_of_exists ⟨e, he, by simp [hd]⟩)
theorem idxE_at {d : List Nat} {l : List Ent} {i : Nat} {e : Ent} (h : l[i]? = some e) (hd : e.dig = d) (hn : ∀ j x, j < i → l[j]? = some x → x.dig ≠ d) : idxE d l = i := by
 have hi := (List.getElem?_eq_some_iff.1 h).1
 have h1 : idxE d l ≤ i := by
  refine Nat.le_of_not_lt fun hlt => ?_
  have := List.not_of_lt_findIdx (p := fun e : Ent => decide (e.dig = d)) (xs := l) hlt
  rw [show l[i] = e from Option.some.inj ((List.getElem?_eq_getElem hi).symm.trans h)] at this
  simp [hd] at this
 refine Nat.le_antisymm h1 (Nat.le_of_not_lt fun hlt => ?_)
 obtain ⟨x, hx, hxd⟩ := idxE_lt (d := d) (l := l) (by omega)
 exact hn _ x hlt hx hxd

theorem putE_fine {l : List Ent} {kind : Int} {data : List Nat} (h : l = [] ∨ fineB l = true) (hk : kindB kind = true) (hi : ¬ idxE (entD kind data) l < l.length) (hl : l.length ≠ 65536) : fineB (putE l kind data) = true := by
 have hl2 : (∀ e ∈ l, entB e = true) ∧ (l.map (·.dig)).Nodup ∧ l.length ≤ 65536 := by
  rcases h with rfl | h
  · simp
  · rw [fineB_iff] at h; exact ⟨h.1, h.2.1, h.2.2.2⟩
 rw [fineB_iff]
 unfold putE
 refine ⟨fun e he => ?_, ?_, by simp, by simp; omega⟩
 · rcases List.mem_append.1 he with he | he
   · exact hl2.1 e he
   · rw [List.mem_singleton] at he; subst he; simp [entB, keptB, hk]
 · rw [List.map_append, List.nodup_append]
   refine ⟨hl2.2.1, by simp, fun a ha b hb e => ?_⟩
   simp at hb
   subst hb e
   exact idxE_not hi ha

/-! ### the logs -/
theorem logsB_cons {p : Int} {x : Lg} {r : List Lg} : logsB p (x :: r) = true ↔ folderB x.folder = true ∧ p < x.folder ∧ fineB x.es = true ∧ logsB x.folder r = true := by
 simp [logsB, and_assoc]
theorem insL_ok {f : Int} {l : List Ent} (hf : folderB f = true) (hl : fineB l = true) : ∀ (L : List Lg) (p : Int), logsB p L = true → p < f → logsB p (insL f l L) = true
 | [], p, _, hp => by simp [insL, logsB, hf, hl, hp]
 | x :: r, p, h, hp => by
  rw [logsB_cons] at h
  unfold insL
  split
  · rename_i h1
    rw [logsB_cons]
    exact ⟨h.1, h.2.1, h.2.2.1, insL_ok hf hl r _ h.2.2.2 h1⟩
  · split
    · rename_i h1 h2
      rw [logsB_cons]
      exact ⟨hf, hp, hl, h2 ▸ h.2.2.2⟩
    · rw [logsB_cons]
      refine ⟨hf, hp, hl, ?_⟩
      rw [logsB_cons]
      exact ⟨h.1, by simp only []; omega, h.2.2⟩
theorem entsL_fine {f : Int} : ∀ (L : List Lg) (p : Int), logsB p L = true → entsL f L = [] ∨ fineB (entsL f L) = true
 | [], _, _ => .inl rfl
 | x :: r, p, h => by
  rw [logsB_cons] at h
  unfold entsL
  split
  · exact .inr h.2.2.1
  · exact entsL_fine r _ h.2.2.2

theorem chkS_iff (s : St) : chkS s = 0 ↔ newE s.id s.priv = 0 ∧ logsB (-1) s.logs = true := by
 unfold chkS
 split
 · rename_i h; simp [h]
 · rename_i h; exact ⟨fun e => absurd e (by decide), fun e => absurd e h⟩
theorem openE_iff (s : St) (f : Int) : openE s f = 0 ↔ chkS s = 0 ∧ folderB f = true := by
 unfold openE
 split
 · rename_i h; cases hf : folderB f <;> simp [h]
 · rename_i h; simp [h]
theorem replS_ok {s : St} {f : Int} {l : List Ent} (h : openE s f = 0) (hl : fineB l = true) : chkS (replS s f l) = 0 := by
 rw [openE_iff, chkS_iff] at h
 rw [chkS_iff]
 have hf := h.2
 unfold folderB at hf
 rw [decide_eq_true_iff] at hf
 exact ⟨h.1.1, insL_ok h.2 hl _ _ h.1.2 (by omega)⟩
theorem ents_fine {s : St} (h : chkS s = 0) (f : Int) : ents s f = [] ∨ fineB (ents s f) = true := by
 rw [chkS_iff] at h
 exact entsL_fine _ _ h.2
/-! ### where a log is -/
def pos (f : Int) : List Lg → Nat
 | [] => 0
 | x :: r => if x.folder < f then pos f r + 1 else 0
def has (f : Int) : List Lg → Bool
 | [] => false
 | x :: r => if x.folder < f then has f r else decide (x.folder = f)
theorem pos_le (f : Int) : ∀ L : List Lg, pos f L ≤ L.length
 | [] => Nat.le_refl _
 | x :: r => by unfold pos; split <;> simp; exact pos_le f r
theorem has_at (f : Int) : ∀ (L : List Lg), has f L = match L[pos f L]? with | some x => decide (x.folder = f) | none => false
 | [] => rfl
 | y :: r => by
  unfold has pos
  split
  · rw [has_at f r]; simp
  · simp
theorem pos_eq {f : Int} : ∀ {L : List Lg} {i : Nat}, i ≤ L.length → (∀ j x, j < i → L[j]? = some x → x.folder < f) → (∀ x, L[i]? = some x → f ≤ x.folder) → pos f L = i
 | [], i, hi, _, _ => by simp [pos]; simp at hi; omega
 | y :: r, i, hi, hlo, hhi => by
  unfold pos
  cases i with
  | zero =>
   have := hhi y (by simp)
   rw [if_neg (by omega)]
  | succ i =>
   rw [if_pos (hlo 0 y (by omega) (by simp)), pos_eq (L := r) (i := i) (by simpa using hi) (fun j x hj hx => hlo (j + 1) x (by omega) (by simpa using hx)) (fun x hx => hhi x (by simpa using hx))]
theorem logsB_lt {L : List Lg} : ∀ {p : Int} {i j : Nat} {x y : Lg}, logsB p L = true → i < j → L[i]? = some x → L[j]? = some y → x.folder < y.folder := by
 have low : ∀ (L : List Lg) (p : Int) (j : Nat) (y : Lg), logsB p L = true → L[j]? = some y → p < y.folder := by
  intro L
  induction L with
  | nil => intro p j y _ h; simp at h
  | cons z r ih =>
   intro p j y h hy
   rw [logsB_cons] at h
   cases j with
   | zero => simp at hy; rw [← hy]; exact h.2.1
   | succ j => have := ih _ j y h.2.2.2 (by simpa using hy); omega
 induction L with
 | nil => intro p i j x y _ _ h; simp at h
 | cons z r ih =>
  intro p i j x y h hij hx hy
  rw [logsB_cons] at h
  cases j with
  | zero => omega
  | succ j =>
   cases i with
   | zero => simp at hx; rw [← hx]; exact low r _ j y h.2.2.2 (by simpa using hy)
   | succ i => exact ih h.2.2.2 (Nat.lt_of_succ_lt_succ hij) hx hy
theorem insL_has {f : Int} (l : List Ent) : ∀ {L : List Lg}, has f L = true → insL f l L = L.set (pos f L) ⟨f, l⟩
 | [], h => by simp [has] at h
 | x :: r, h => by
  unfold has at h
  unfold insL pos
  split
  · rename_i h1
    rw [if_pos h1] at h
    rw [insL_has l h]
    rfl
  · rename_i h1
    rw [if_neg h1, decide_eq_true_iff] at h
    rw [if_pos h]
    rfl
theorem insL_new {f : Int} (l : List Ent) : ∀ {L : List Lg}, has f L = false → insL f l L = L.take (pos f L) ++ [⟨f, l⟩] ++ L.drop (pos f L)
 | [], h => rfl
 | x :: r, h => by
  unfold has at h
  unfold insL pos
  split
  · rename_i h1
    rw [if_pos h1] at h
    rw [insL_new l h]
    simp
  · rename_i h1
    rw [if_neg h1, decide_eq_false_iff_not] at h
    rw [if_neg h]
    rfl
theorem entsL_has {f : Int} : ∀ {L : List Lg} {x : Lg}, has f L = true → L[pos f L]? = some x → entsL f L = x.es
 | [], x, h, hx => by simp [pos] at hx
 | y :: r, x, h, hx => by
  unfold has at h
  unfold pos at hx
  unfold entsL
  split at h
  · rename_i h1
    rw [if_pos h1] at hx
    rw [if_neg (by omega)]
    exact entsL_has h (by simpa using hx)
  · rename_i h1
    rw [if_neg h1] at hx
    rw [decide_eq_true_iff] at h
    simp at hx
    subst hx
    rw [if_pos h]
theorem entsL_new {f : Int} : ∀ {L : List Lg} {p : Int}, logsB p L = true → has f L = false → entsL f L = []
 | [], _, _, _ => rfl
 | y :: r, p, hl, h => by
  rw [logsB_cons] at hl
  unfold has at h
  unfold entsL
  split at h
  · rename_i h1
    rw [if_neg (by omega)]
    exact entsL_new hl.2.2.2 h
  · rename_i h1
    rw [decide_eq_false_iff_not] at h
    rw [if_neg h]
    refine entsL_new hl.2.2.2 ?_
    cases r with
    | nil => rfl
    | cons z r =>
     have := (logsB_cons.1 hl.2.2.2).2.1
     unfold has
     rw [if_neg (by omega), decide_eq_false_iff_not]
     omega
end Go.Sto

