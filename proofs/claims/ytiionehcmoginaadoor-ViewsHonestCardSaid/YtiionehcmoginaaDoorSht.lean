/- short: few texts, and short ones; slices of texts opened, with the rows' bound on their sizes; entries over letters for lengths -/
import Derived.Test.YtiionehcmoginaaDoorVwE
import Derived.Test.YtiionehcmoginaaDoorSnq
namespace Go.Proofs.YtiionehcmoginaaDoor
open Go.ChangeShapes Go.WideShapes Go.ChangeAt Go.RowKit Go.Joins Go.Mem Go.Shelf
open Go.Sto (Ent)
open Go.Vw (entT)
theorem cellsStr : Tryd.prog.cellsOf 9 = 1 := by kernel_rfl
theorem ty_str : Tryd.prog.underlying 22 = some (.slice 9) := Tryd.underlying22
section
variable {H : Type} {enc : TypeId × Value → H} {W : World}
theorem wAll_get {P : Program} {e : TypeId} {n : Nat} : ∀ (l : List (DataW H)), (DataW.weightsAll P e l).all (fun x => decide (x ≤ n)) = true → ∀ d ∈ l, (d.weights P e).all (fun x => decide (x ≤ n)) = true
  | [], _, _, h => by cases h
  | d :: r, h, x, hx => by
    rw [DataW.weightsAll, List.all_append, Bool.and_eq_true] at h
    rcases List.mem_cons.1 hx with rfl | hx
    · exact h.1
    · exact wAll_get r h.2 x hx
/-- a slice of texts opened; the form's bound on sizes holds of each. -/
theorem open_strs {fuel : Nat} {cs : List Value} {d : DataW H} {p : List MemPlace} (h : DataW.trod enc Tryd.prog W 0 (fun _ => true) true fuel 22 cs = some (d, p)) :
    ∃ a n c l, cs = [.slice a n c] ∧ TxS W a n c l ∧ ((d.weights Tryd.prog 22).all (fun x => decide (x ≤ reachBytes)) = true → ∀ s ∈ l, s.size ≤ reachBytes) := by
  rcases Deep.open_slice ty_str h with ⟨rfl, _⟩ | ⟨ad, len, cap, m, k, D, Pl, rfl, hb, hl, hm, hmm, hd, hx⟩
  · exact ⟨none, 0, 0, [], rfl, RS.nil0 _ _ _, fun _ _ h => by cases h⟩
  · simp at hmm
    subst hmm
    rw [cellsStr] at hx
    have each : ∀ i, i < m → ∃ s : ByteArray, W.cell? (ad.add i) = some (.string s) ∧ D i = .lit (.string s.data.toList) := by
      intro i hi
      obtain ⟨cs', h1, h2⟩ := hx i hi
      rw [Nat.mul_one] at h1
      obtain ⟨_, hlen, hcell⟩ := World.cells?_some h1
      obtain ⟨s, rfl, h3, _⟩ := DataW.trod_string Tryd.underlying9 h2
      have e0 := hcell 0 (by omega)
      have z : ∀ q : Addr, q.add 0 = q := fun q => by unfold Addr.add; cases q; simp
      rw [z] at e0
      exact ⟨s, by simpa using e0, (Prod.mk.inj h3).1⟩
    have : Inhabited ByteArray := ⟨⟨#[]⟩⟩
    obtain ⟨T, hT⟩ := Deep.choose_lt each
    refine ⟨some ad, len, m, (List.range len).map T, rfl, ⟨by simp, fun _ _ _ => trivial, (List.range len).map (fun i => [.string (T i)]), ⟨?_, hl, hm, (fun e => by cases e), fun hn => ?_⟩, ⟨by simp, fun r hr => ?_, fun i e r he hr => ?_⟩⟩, fun hw s hs => ?_⟩
    · rw [flat_len (s := 1) (fun r hr => by obtain ⟨i, _, rfl⟩ := List.mem_map.1 hr; rfl)]; simp
    · obtain ⟨b, off, spot⟩ := ad
      have c0 := (hT 0 (by omega)).1
      have hspot : spot = none := by simpa [Addr.add] using World.cell?_spot c0
      subst hspot
      have hbl : b < W.heap.size := World.block_lt_of_cell? W _ (by simpa [Addr.add] using c0)
      refine ⟨b, off, rfl, hbl, fun j u hj => ?_⟩
      have hrs : ∀ r ∈ (List.range len).map (fun i => [Value.string (T i)]), r.length = 1 := fun r hr => by obtain ⟨i, _, rfl⟩ := List.mem_map.1 hr; rfl
      have hjl := (List.getElem?_eq_some_iff.1 hj).1
      rw [flat_len hrs] at hjl
      simp only [List.length_map, List.length_range, Nat.mul_one] at hjl
      have hg := flat_get (i := j) (j := 0) hrs (r := [.string (T j)]) (u := .string (T j)) (by simp [hjl]) rfl
      rw [Nat.mul_one, Nat.add_zero, hj] at hg
      cases hg
      have := (hT j (by omega)).1
      rwa [Addr.add_lit] at this
    · obtain ⟨i, _, rfl⟩ := List.mem_map.1 hr; rfl
    · have hi : i < len := by have := (List.getElem?_eq_some_iff.1 he).1; simpa using this
      rw [List.getElem?_map, List.getElem?_range hi] at he hr
      simp at he hr
      rw [← he, ← hr]
    · obtain ⟨i, hi, rfl⟩ := List.mem_map.1 hs
      have hi' := List.mem_range.1 hi
      rw [(Prod.mk.inj hd).1, DataW.weights] at hw
      simp only [ty_str, List.all_cons, Bool.and_eq_true, List.all_append] at hw
      have h4 := wAll_get _ hw.2.1 (D i) (List.mem_map.2 ⟨i, hi, rfl⟩)
      rw [(hT i (by omega)).2, DataW.weights] at h4
      simp only [List.all_cons, List.all_nil, Bool.and_true, decide_eq_true_iff] at h4
      exact h4
end

def szs (l : List ByteArray) : Nat := (l.map (·.size)).sum
def shortB (l : List ByteArray) : Bool := decide (l.length ≤ 8) && decide (szs l ≤ 400)
theorem szs_take {l : List ByteArray} {k : Nat} {s : ByteArray} (h : l[k]? = some s) : szs (l.take (k + 1)) = szs (l.take k) + s.size := by
  have hk := (List.getElem?_eq_some_iff.1 h).1
  unfold szs
  rw [List.take_succ_eq_append_getElem hk, (List.getElem?_eq_some_iff.1 h).2, List.map_append, List.sum_append]
  simp
theorem szs_bd {m : Nat} : ∀ {l : List ByteArray}, (∀ s ∈ l, s.size ≤ m) → szs l ≤ l.length * m
  | [], _ => by simp [szs]
  | s :: r, h => by
    have h1 := szs_bd (fun x hx => h x (List.mem_cons_of_mem _ hx))
    have h2 := h s (List.mem_cons_self ..)
    have e : szs (s :: r) = s.size + szs r := by simp [szs]
    rw [e, List.length_cons, Nat.succ_mul]
    omega
theorem szs_mem : ∀ {l : List ByteArray} {s : ByteArray}, s ∈ l → s.size ≤ szs l
  | x :: r, s, h => by
    have e : szs (x :: r) = x.size + szs r := by simp [szs]
    rw [e]
    rcases List.mem_cons.1 h with rfl | h
    · omega
    · have := szs_mem h; omega
theorem short_iff {l : List ByteArray} (h : shortB l = true) : l.length ≤ 8 ∧ szs l ≤ 400 := by
  unfold shortB at h
  rw [Bool.and_eq_true, decide_eq_true_iff, decide_eq_true_iff] at h
  exact h
theorem short_mem {l : List ByteArray} (h : shortB l = true) : ∀ s ∈ l, s.size ≤ 1000000 := fun s hs => by
  have := szs_mem hs
  have := (short_iff h).2
  omega

set_option maxRecDepth 20000 in
set_option maxHeartbeats 4000000 in
theorem short_any (a : Option Addr) (n c : Nat) (l : List ByteArray) (w : World) (H : TxS w a n c l) (hsz : ∀ s ∈ l, s.size ≤ reachBytes) :
    Calls Tryd.prog 9 #[.slice a n c] w (RetBo (shortB l) w) := by
  have hlen := H.len
  have n63 : (n : Int) ≤ 9223372036854775807 := by
    obtain ⟨_, hr, _⟩ := H.rows
    have h1 := hr.le
    have h2 := hr.max
    unfold maxLen at h2
    omega
  have H' := Lib.hid H
  have hsz' : Hid (∀ s ∈ l, s.size ≤ 140737488351232) := fun s hs => hsz s hs
  clear H hsz
  obtain ⟨X, hX⟩ : ∃ X, X = RetBo (shortB l) w := ⟨_, rfl⟩
  have hfin : Hid (∀ b, shortB l = b → X (.returned (.bool b)) w) := fun b hb => by rw [hX, hb]; exact ⟨rfl, Below.refl _ _⟩
  rw [← hX]
  clear hX
  by_cases h8 : n ≤ 8
  case neg =>
    have g1 : decide (n ≤ 8) = false := decide_eq_false h8
    have g2 : decide ((n : Int) ≤ 8) = false := decide_eq_false (by omega)
    have hf := Lib.hid (hfin.out false (by unfold shortB; rw [hlen, g1]; rfl))
    clear hfin h8
    go_enter Tryd.func9, Tryd.ntmps9
    go_wp2_with fail
    go_loopw [3, 4] (fun z i wr => ∃ (k : Nat) (y : Int), k ≤ n ∧ z = .int .i64 y ∧ i = .int .i64 k ∧ wr = w) (fun _ i _ => n - (intOf i).toNat)
    case atStart => exact ⟨0, 0, Nat.zero_le _, rfl, rfl, rfl⟩
    case round =>
      obtain ⟨k, y, hk, rfl, rfl, rfl⟩ := hrel
      by_cases hlt : k < n
      · obtain ⟨s, hs⟩ : ∃ s, l[k]? = some s := ⟨_, List.getElem?_eq_getElem (by omega)⟩
        obtain ⟨b, off, rfl, hb, hc⟩ := H'.out.get hs
        have k0 : (0 : Int) ≤ (k : Int) := by omega
        have k1 : (k : Int) < (n : Int) := by omega
        go_wp2_with fail
        go_roundw
        case rel => exact ⟨k + 1, _, by omega, rfl, by go_num, by trivial⟩
        case measure => simp [intOf]; omega
      · obtain rfl : n = k := by omega
        go_wp2_with fail
        exact hf.out
  case pos =>
    have g1 : decide (n ≤ 8) = true := decide_eq_true h8
    have g2 : decide ((n : Int) ≤ 8) = true := decide_eq_true (by omega)
    go_enter Tryd.func9, Tryd.ntmps9
    go_wp2_with fail
    go_loopw [3, 4] (fun z i wr => ∃ (k y : Nat), k ≤ n ∧ z = .int .i64 y ∧ i = .int .i64 k ∧ Hid (y = szs (l.take k)) ∧ wr = w) (fun _ i _ => n - (intOf i).toNat)
    case atStart => exact ⟨0, 0, Nat.zero_le _, rfl, rfl, rfl, rfl⟩
    case round =>
      obtain ⟨k, y, hk, rfl, rfl, hy, rfl⟩ := hrel
      by_cases hlt : k < n
      · obtain ⟨s, hs⟩ : ∃ s, l[k]? = some s := ⟨_, List.getElem?_eq_getElem (by omega)⟩
        obtain ⟨b, off, rfl, hb, hc⟩ := H'.out.get hs
        have hy2 : Hid (y + s.size = szs (l.take (k + 1))) := by show _ = _; rw [szs_take hs, hy.out]
        have y1 : y ≤ 1125899906809856 := by
          have h1 := szs_bd (l := l.take k) (m := 140737488351232) (fun x hx => hsz'.out x (List.mem_of_mem_take hx))
          rw [← hy.out, List.length_take] at h1
          have h2 : min k l.length ≤ 8 := by omega
          have h3 := Nat.mul_le_mul_right 140737488351232 h2
          omega
        have y2 := hsz'.out s (List.mem_of_getElem? hs)
        have y3 : (y : Int) + (s.size : Int) ≤ 9223372036854775807 := by omega
        have y4 : (-9223372036854775808 : Int) ≤ (y : Int) + (s.size : Int) := by omega
        have k0 : (0 : Int) ≤ (k : Int) := by omega
        have k1 : (k : Int) < (n : Int) := by omega
        clear hs
        go_wp2_with fail
        go_roundw
        case rel => exact ⟨k + 1, y + s.size, by omega, by go_num, by go_num, hy2, by trivial⟩
        case measure => simp [intOf]; omega
      · obtain rfl : n = k := by omega
        have hq : szs l = y := by have e := hy.out; rw [List.take_of_length_le (by omega)] at e; exact e.symm
        by_cases h4 : y ≤ 400
        · have g3 : decide ((y : Int) ≤ 400) = true := decide_eq_true (by omega)
          have g4 : decide (y ≤ 400) = true := decide_eq_true h4
          have hf := Lib.hid (hfin.out true (by unfold shortB; rw [hlen, g1, hq, g4]; rfl))
          clear hy hq hfin
          go_wp2_with fail
          exact hf.out
        · have g3 : decide ((y : Int) ≤ 400) = false := decide_eq_false (by omega)
          have g4 : decide (y ≤ 400) = false := decide_eq_false h4
          have hf := Lib.hid (hfin.out false (by unfold shortB; rw [hlen, g1, hq, g4]; rfl))
          clear hy hq hfin
          go_wp2_with fail
          exact hf.out

/-- entries of texts, with a letter for the length. -/
theorem ents_at {a : Option Addr} {n c : Nat} {l : List ByteArray} (hs : shortB l = true) (w : World) (HT : Tabs w) (H : TxS w a n c l) :
    Calls Tryd.prog 10 #[.slice a n c] w (fun e w' => ∃ a c, e = .returned (.slice a n c) ∧ ES (fun _ => True) w' a n c (l.map entT) ∧ Below w.heap.size w w') := by
  have hlen := H.len
  refine (ents32_any a n c l (by have := (short_iff hs).1; omega) (short_mem hs) w HT H).mono fun e w' ⟨a', c', he, hE, hb⟩ => ?_
  have hl : (l.map entT).length = n := by rw [List.length_map]; exact hlen
  rw [hl] at he hE
  exact ⟨a', c', he, ⟨hE.rs.imp (fun _ _ _ => trivial) fun e r ⟨h1, a, n, c, h2, h3⟩ => ⟨h1, a, n, c, h2, h3.imp fun _ _ _ => trivial⟩, hE.bd⟩, hb⟩
end Go.Proofs.YtiionehcmoginaaDoor
