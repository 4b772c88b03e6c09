/- slices.BinarySearchFunc at []api.Log; (*store.book).log, .entries -/
import Derived.Test.YtnonfdcbnkdmcaaGreatDoorLog
import Derived.Test.YtnonfdcbnkdmcaaGreatDoorSgn3
namespace Go.Proofs.YtnonfdcbnkdmcaaGreatDoor
open Go.RowKit Go.Mem
open Go.Sto (Ent Lg St)

theorem cmp_lt {x y : Int} : Lib.compareInt x y < 0 ↔ x < y := by
 unfold Lib.compareInt; split
 · simp [*]
 · split <;> simp <;> omega
theorem cmp_eq {x y : Int} : (Lib.compareInt x y == 0) = decide (x = y) := by
 unfold Lib.compareInt
 split
 · rw [decide_eq_false (by omega)]; rfl
 · split
   · rw [decide_eq_false (by omega)]; rfl
   · rw [decide_eq_true (by omega)]; rfl

set_option maxHeartbeats 400000 in
theorem log1_any (f k : Int) (a : Option Addr) (n c : Nat) (w : World) :
 Calls Tryz.prog 161 #[.agg #[.int .i64 f, .slice a n c], .int .i64 k] w (RetI (Lib.compareInt f k) w) := by
 have hc := Lib.hid (fun W => Tryz.cmp_Compare_int f k W)
 go_enter Tryz.func161, Tryz.ntmps161
 go_wp2_with fail
 refine (hc.out _).mono ?_
 rintro e w1 ⟨rfl, rfl⟩
 go_wp2_with fail
 go_returns
 exact ⟨rfl, (Below.refl _ _).alloc (Nat.le_refl _) _⟩

theorem LS.cells {K : Nat → Prop} {w : World} {a : Option Addr} {n c : Nat} {l : List Lg} (h : LS K w a n c l) {k : Nat} {x : Lg} (hx : l[k]? = some x) :
 ∃ b off ea en ec, a = some ⟨b, off, none⟩ ∧ b < w.heap.size ∧ K b ∧ I64 x.folder ∧ ES K w ea en ec x.es ∧ w.cell? ⟨b, off + k * 2, none⟩ = some (.int .i64 x.folder) ∧ w.cell? ⟨b, off + k * 2 + 1, none⟩ = some (.slice ea en ec) := by
 obtain ⟨b, off, r, rfl, hb, hK, hR, _, hg⟩ := h.rs.get hx
 obtain ⟨hf, ea, en, ec, rfl, hes⟩ := hR
 exact ⟨b, off, ea, en, ec, rfl, hb, hK, hf, hes, by simpa using hg 0 _ rfl, hg 1 _ rfl⟩

set_option maxRecDepth 20000 in
set_option maxHeartbeats 1000000 in
theorem bsf_any (K : Nat → Prop) (a : Option Addr) (n c : Nat) (l : List Lg) (key : Int) (w : World) (H : LS K w a n c l) (hs : Sto.logsB (-1) l = true) :
 Calls Tryz.prog 160 #[.slice a n c, .int .i64 key, .func (.func 161) #[] #[]] w fun e w' => e = .returned (.tuple #[.int .i64 (Sto.pos key l), .bool (Sto.has key l)]) ∧ Below w.heap.size w w' := by
 have hle := H.rs.le
 have hmx := H.rs.max
 have hn := H.bd
 have hlen := H.rs.len
 have hc1 := Lib.hid (fun f a n c W => log1_any f key a n c W)
 go_enter Tryz.func160, Tryz.ntmps160
 go_wp2
 go_loopw [9, 10] (fun iv jv wr => ∃ (i j : Nat), i ≤ j ∧ j ≤ n ∧ iv = .int .i64 i ∧ jv = .int .i64 j ∧ (∀ p t, p < i → l[p]? = some t → t.folder < key) ∧ (∀ p t, j ≤ p → l[p]? = some t → key ≤ t.folder) ∧ Below w.heap.size w wr)
  (fun i j _ => (intOf j - intOf i).toNat)
 case atStart => exact ⟨0, n, Nat.zero_le _, Nat.le_refl _, rfl, rfl, fun p t hp => absurd hp (by omega), fun p t hp ht => absurd (List.getElem?_eq_some_iff.1 ht).1 (by omega), Below.refl _ _⟩
 case round =>
  obtain ⟨i, j, hij, hjn, rfl, rfl, hlo, hhi, hb⟩ := hrel
  by_cases hlt : i < j
  · have hlt' : (i : Int) < (j : Int) := by omega
    have hm1 : (i + j) / 2 < n := by omega
    have hm2 : i ≤ (i + j) / 2 ∧ (i + j) / 2 < j := by omega
    have hkl : (i + j) / 2 < l.length := by omega
    have hget : l[(i + j) / 2]? = some l[(i + j) / 2] := List.getElem?_eq_getElem hkl
    obtain ⟨b, off, ea, en, ec, rfl, hbs, _, _, _, c0, c1⟩ := H.cells hget
    rw [← hb.cell (p := ⟨b, _, none⟩) hbs] at c0 c1
    generalize l[(i + j) / 2] = t at *
    have hi1 : ((i : Int) + (j : Int)) / 2 < (n : Int) := by omega
    have hi2 : (0 : Int) ≤ ((i : Int) + (j : Int)) / 2 := by omega
    have hi3 : (((i : Int) + (j : Int)) / 2).toNat = (i + j) / 2 := by omega
    by_cases hk : t.folder < key
    · have hcm : Lib.compareInt t.folder key < 0 := cmp_lt.2 hk
      have hlo' : Hid (∀ p u, p < (i + j) / 2 + 1 → l[p]? = some u → u.folder < key) := fun p u hp hu => by
       by_cases e : p = (i + j) / 2
       · subst e; rw [hget] at hu; cases hu; exact hk
       · exact Int.lt_trans (Sto.logsB_lt hs (by omega) hu hget) hk
      have hhi' := Lib.hid hhi
      clear hlo hhi hget hkl
      go_wp2_with (refine (hc1.out _ _ _ _ _).mono ?_; rintro e w1 ⟨rfl, hb1⟩)
      go_roundw
      case rel => exact ⟨(i + j) / 2 + 1, j, by omega, hjn, by go_num, rfl, hlo'.out, hhi'.out, hb.trans (hb1.mono hb.size)⟩
      case measure => simp [intOf]; omega
    · have hcm : (Lib.compareInt t.folder key < 0) = False := by rw [eq_iff_iff, iff_false, cmp_lt]; exact hk
      have hhi' : Hid (∀ p u, (i + j) / 2 ≤ p → l[p]? = some u → key ≤ u.folder) := fun p u hp hu => by
       by_cases e : p = (i + j) / 2
       · subst e; rw [hget] at hu; cases hu; omega
       · have := Sto.logsB_lt hs (show (i + j) / 2 < p by omega) hget hu; omega
      have hlo' := Lib.hid hlo
      clear hlo hhi hget hkl
      go_wp2_with (refine (hc1.out _ _ _ _ _).mono ?_; rintro e w1 ⟨rfl, hb1⟩)
      go_roundw
      case rel => exact ⟨i, (i + j) / 2, by omega, by omega, rfl, by go_num, hlo'.out, hhi'.out, hb.trans (hb1.mono hb.size)⟩
      case measure => simp [intOf]; omega
  · obtain rfl : i = j := by omega
    have hpos : Sto.pos key l = i := Sto.pos_eq (by omega) hlo (fun x hx => hhi i x (Nat.le_refl _) hx)
    by_cases hin : i < n
    · have hkl : i < l.length := by omega
      have hget : l[i]? = some l[i] := List.getElem?_eq_getElem hkl
      obtain ⟨b, off, ea, en, ec, rfl, hbs, _, _, _, c0, c1⟩ := H.cells hget
      rw [← hb.cell (p := ⟨b, _, none⟩) hbs] at c0 c1
      generalize l[i] = t at *
      have hfin : Hid (Ending.returned (.tuple #[.int .i64 i, .bool (Lib.compareInt t.folder key == 0)]) = .returned (.tuple #[.int .i64 (Sto.pos key l), .bool (Sto.has key l)])) := by
       rw [cmp_eq, Sto.has_at, hpos, hget]
       rfl
      have hin' : (i : Int) < (n : Int) := by omega
      clear hlo hhi hget hkl hpos
      go_wp2_with (refine (hc1.out _ _ _ _ _).mono ?_; rintro e w1 ⟨rfl, hb1⟩)
      go_ret2
      exact ⟨hfin.out, hb.trans (hb1.mono hb.size)⟩
    · obtain rfl : i = n := by omega
      have hfin : Hid (Ending.returned (.tuple #[.int .i64 i, .bool false]) = .returned (.tuple #[.int .i64 (Sto.pos key l), .bool (Sto.has key l)])) := by
       rw [Sto.has_at, hpos, List.getElem?_eq_none (by omega)]
       rfl
      clear hlo hhi hpos
      go_wp2
      go_ret2
      exact ⟨hfin.out, hb⟩

structure Book (K : Nat → Prop) (w : World) (bb : Nat) (s : St) : Prop where
 ex : ∃ t a n c, Blk w bb t (stC s a n c) ∧ SV K w a n c s
theorem Book.below {K : Nat → Prop} {w w' : World} {bb : Nat} {s : St} (h : Book K w bb s) (hb : Below w.heap.size w w') : Book K w' bb s := by
 obtain ⟨t, a, n, c, h1, h2⟩ := h.ex
 exact ⟨t, a, n, c, h1.below hb h1.lt, h2.below hb⟩
theorem Book.lt {K : Nat → Prop} {w : World} {bb : Nat} {s : St} (h : Book K w bb s) : bb < w.heap.size := by
 obtain ⟨t, a, n, c, h1, h2⟩ := h.ex
 exact h1.lt

set_option maxHeartbeats 1000000 in
theorem log_any (K : Nat → Prop) (bb : Nat) (s : St) (f : Int) (w : World) (H : Book K w bb s) (hs : Sto.logsB (-1) s.logs = true) :
 Calls Tryz.prog 108 #[.pointer (some ⟨bb, 0, none⟩), .int .i64 f] w fun e w' => e = .returned (.tuple #[.int .i64 (Sto.pos f s.logs), .bool (Sto.has f s.logs)]) ∧ Below w.heap.size w w' := by
 obtain ⟨t, a, n, c, hB, hS⟩ := H.ex
 have c2 := hB.at_ (i := 2) rfl
 have hc := Lib.hid (bsf_any K a n c s.logs f w hS.ls hs)
 clear hB hS
 go_enter Tryz.func108, Tryz.ntmps108
 go_wp2_with fail
 refine hc.out.mono ?_
 rintro e w1 ⟨rfl, hb⟩
 go_wp2_with fail
 go_ret2
 exact ⟨rfl, hb⟩

set_option maxRecDepth 20000 in
set_option maxHeartbeats 1000000 in
theorem entries_any (K : Nat → Prop) (bb : Nat) (s : St) (f : Int) (w : World) (H : Book K w bb s) (hs : Sto.logsB (-1) s.logs = true) :
 Calls Tryz.prog 70 #[.pointer (some ⟨bb, 0, none⟩), .int .i64 f] w fun e w' => ∃ a c, e = .returned (.slice a (Sto.ents s f).length c) ∧ ES K w' a (Sto.ents s f).length c (Sto.ents s f) ∧ Below w.heap.size w w' := by
 have hc := Lib.hid (log_any K bb s f w H hs)
 have H' := Lib.hid H
 cases hh : Sto.has f s.logs with
 | false =>
  have he : Sto.ents s f = [] := Sto.entsL_new hs hh
  rw [he]
  rw [hh] at hc
  clear hh he H
  go_enter Tryz.func70, Tryz.ntmps70
  go_wp2_with fail
  refine hc.out.mono ?_
  rintro e w1 ⟨rfl, hb⟩
  go_wp2_with fail
  go_ret
  exact ⟨none, 0, rfl, ES.nil0 _ _, hb⟩
 | true =>
  have hx := Sto.has_at f s.logs
  rw [hh] at hx
  cases hg : s.logs[Sto.pos f s.logs]? with
  | none => rw [hg] at hx; cases hx
  | some x =>
   have he : Sto.ents s f = x.es := Sto.entsL_has hh hg
   rw [he]
   rw [hh] at hc
   have hg' := Lib.hid hg
   have hpl := (List.getElem?_eq_some_iff.1 hg).1
   obtain ⟨p, hp⟩ : ∃ p, Hid (Sto.pos f s.logs = p) := ⟨_, rfl⟩
   rw [hp.out] at hc hg' hpl
   clear hh he hx hg H
   go_enter Tryz.func70, Tryz.ntmps70
   go_wp2_with fail
   refine hc.out.mono ?_
   rintro e w1 ⟨rfl, hb⟩
   obtain ⟨t, a, n, c, hB, hS⟩ := (H'.out.below hb).ex
   have c2 := hB.at_ (i := 2) rfl
   obtain ⟨b, off, ea, en, ec, rfl, _, _, _, hes, _, c1⟩ := hS.ls.cells hg'.out
   have hn := hS.ls.rs.len
   have p0 : (0 : Int) ≤ (p : Int) := by omega
   have p1 : (p : Int) < (n : Int) := by omega
   have hlen := hes.rs.len
   have hes' := Lib.hid hes
   clear hB hS hes hc
   go_wp2_with fail
   go_ret
   subst hlen
   exact ⟨ea, ec, rfl, hes'.out, hb⟩
end Go.Proofs.YtnonfdcbnkdmcaaGreatDoor
