/- slices.IndexFunc at []api.Entry with a digest; slices.Clip -/
import Derived.Test.YtgfmdjagamjpbaaDoorFin
namespace Go.Proofs.YtgfmdjagamjpbaaDoor
open Go.RowKit Go.Mem
open Go.Sto (Ent Lg St)

set_option maxRecDepth 20000 in
set_option maxHeartbeats 1000000 in
theorem put1_any (db : Nat) (d : List Nat) (hd : Dig d) (e : Ent) (he : Dig e.dig) (a : Option Addr) (n c : Nat) (r : List Value) (hr : r = entC e a n c) (w : World) (H : Blk w db 35 (bv d)) :
    Calls Tryd.prog 39 #[.agg r.toArray, .pointer (some ⟨db, 0, none⟩)] w (RetBo (decide (e.dig = d)) w) := by
  have heq := fun W => eq_dig he hd W
  have hG : EntB (w.alloc (.cells r.toArray 48)) w.heap.size e a n c := EntB.of (t := 48) (by rw [← hr]; exact Blk.new w _ r) he.1
  have hDr : Hid ((w.alloc (.cells r.toArray 48)).rangeAt db 0 (bv d)) := (H.alloc _).range
  have hdr := Lib.hid hG.dig
  have hdi : Hid ((Tryd.prog.info? 35).map (·.size) = some (bv e.dig).length) := by show _ = _; rw [bv_length, he.1]; exact size35
  have hdi2 : Hid ((Tryd.prog.info? 35).map (·.size) = some (bv d).length) := by show _ = _; rw [bv_length, hd.1]; exact size35
  have hb : Hid (Below w.heap.size w (w.alloc (.cells r.toArray 48))) := (Below.refl _ w).alloc (Nat.le_refl _) _
  clear hG H hr
  generalize hq : decide (e.dig = d) = q at *
  go_enter Tryd.func39, Tryd.ntmps39
  go_wp2_with (first
    | (refine wpList_load_mid (by rfl) 35 (.tmp 4) (by rfl) w.heap.size 1 (by rfl) (bv e.dig) _ hdr.out Tryd.underlying35 (by rfl) hdi.out ?_)
    | (refine wpList_load_mid (by rfl) 35 (.tmp 1) (by rfl) db 0 (by rfl) (bv d) _ hDr.out Tryd.underlying35 (by rfl) hdi2.out ?_))
  go_ret
  exact ⟨rfl, hb.out⟩

def idxI (d : List Nat) (l : List Ent) : Int := if Sto.idxE d l < l.length then Sto.idxE d l else -1
theorem idxI_at {d : List Nat} {l : List Ent} {i : Nat} {e : Ent} (h : l[i]? = some e) (hd : e.dig = d) (hn : ∀ (j : Nat) x, j < i → l[j]? = some x → x.dig ≠ d) : idxI d l = i := by
  unfold idxI
  rw [Sto.idxE_at h hd hn, if_pos (List.getElem?_eq_some_iff.1 h).1]
theorem idxI_none {d : List Nat} {l : List Ent} (hn : ∀ (j : Nat) x, l[j]? = some x → x.dig ≠ d) : idxI d l = -1 := by
  unfold idxI
  rw [if_neg]
  intro h
  obtain ⟨e, he, hd⟩ := Sto.idxE_lt h
  exact hn _ e he hd

set_option maxRecDepth 20000 in
set_option maxHeartbeats 1000000 in
theorem indexE_any (K : Nat → Prop) (a : Option Addr) (n c : Nat) (l : List Ent) (db : Nat) (d : List Nat) (hd : Dig d) (w : World) (H : ES K w a n c l) (HB : Blk w db 35 (bv d)) :
    Calls Tryd.prog 38 #[.slice a n c, .func (.func 39) #[] #[.pointer (some ⟨db, 0, none⟩)]] w (RetI (idxI d l) w) := by
  have hlen := H.rs.len
  have hbd := H.bd
  have n63 : (n : Int) ≤ 100000 := by omega
  have H' := Lib.hid H; have HB' := Lib.hid HB; have hd' := Lib.hid hd
  clear H HB hd
  go_enter Tryd.func38, Tryd.ntmps38
  go_wp2_with fail
  go_loopw [8] (fun i wr => ∃ k : Nat, k ≤ n ∧ i = .int .i64 k ∧ Hid (∀ (j : Nat) x, j < k → l[j]? = some x → x.dig ≠ d) ∧ Hid (Below w.heap.size w wr)) (fun i _ => n - (intOf i).toNat)
  case atStart => exact ⟨0, Nat.zero_le _, rfl, fun _ _ h => absurd h (by omega), Below.refl _ _⟩
  case round =>
    obtain ⟨k, hk, rfl, hno, hb⟩ := hrel
    by_cases hlt : k < n
    · have hkl : k < l.length := by omega
      obtain ⟨e, he⟩ : ∃ e, l[k]? = some e := ⟨_, List.getElem?_eq_getElem hkl⟩
      obtain ⟨b, off, r, rfl, hbl, _, ⟨ho, da, dn, dc, er, hbk⟩, hrl, hrg⟩ := (H'.out.below hb.out).rs.get he
      have hri : Hid ((Tryd.prog.info? 48).map (·.size) = some r.length) := by show _ = _; rw [hrl]; exact sizeE
      have hrg' := Lib.hid hrg
      have hcl := Lib.hid (put1_any db d hd'.out e ⟨ho.dig, ho.lt⟩ da dn dc r er wr (HB'.out.below hb.out HB'.out.lt))
      have he' := Lib.hid he
      have k0 : (0 : Int) ≤ (k : Int) := by omega
      have k1 : (k : Int) < (n : Int) := by omega
      clear he hrg hrl er hbk ho
      by_cases hde : e.dig = d
      · rw [decide_eq_true hde] at hcl
        have hfin : Hid (idxI d l = (k : Int)) := idxI_at he'.out hde hno.out
        clear hde hno
        go_wp2_with (first
          | (refine wpList_load_mid (by rfl) 48 (.tmp 14) (by rfl) b (off + k * 35) (by rfl) r _ hrg'.out Tryd.underlying48 (by rfl) hri.out ?_))
        refine hcl.out.mono ?_
        rintro e2 w2 ⟨rfl, hb2⟩
        go_wp2_with fail
        go_ret
        exact ⟨by rw [hfin.out]; rfl, hb.out.trans (hb2.mono hb.out.size)⟩
      · rw [decide_eq_false hde] at hcl
        have hno2 : Hid (∀ (j : Nat) x, j < k + 1 → l[j]? = some x → x.dig ≠ d) := fun j x hj hx => by
          by_cases hjk : j = k
          · subst hjk; rw [he'.out] at hx; cases hx; exact hde
          · exact hno.out j x (by omega) hx
        clear hde hno
        go_wp2_with (first
          | (refine wpList_load_mid (by rfl) 48 (.tmp 14) (by rfl) b (off + k * 35) (by rfl) r _ hrg'.out Tryd.underlying48 (by rfl) hri.out ?_))
        refine hcl.out.mono ?_
        rintro e2 w2 ⟨rfl, hb2⟩
        have hb3 := Lib.hid (hb.out.trans (hb2.mono hb.out.size))
        go_wp2_with fail
        go_roundw
        case rel => exact ⟨k + 1, by omega, by go_num, hno2, hb3⟩
        case measure => simp [intOf]; omega
    · obtain rfl : k = n := by omega
      have hfin : Hid (idxI d l = -1) := idxI_none fun j x hx => hno.out j x (by have := (List.getElem?_eq_some_iff.1 hx).1; omega) hx
      clear hno
      go_wp2_with fail
      go_ret
      exact ⟨by rw [hfin.out]; rfl, hb.out⟩

/-- slices.Clip: no room is left. -/
theorem clip_any (a : Option Addr) (n c : Nat) (hn : n ≤ c) (hc : c ≤ 9223372036854775807) (hs : a = none → n = 0 ∧ c = 0) (w : World) :
    Calls Tryd.prog 41 #[.slice a n c] w fun e w' => e = .returned (.slice a n n) ∧ w' = w := by
  have n0 : (0 : Int) ≤ (n : Int) := by omega
  have n1 : (n : Int) ≤ (c : Int) := by omega
  cases a with
  | none =>
    obtain ⟨rfl, rfl⟩ := hs rfl
    go_enter Tryd.func41, Tryd.ntmps41
    go_wp2_with fail
    go_ret
    exact ⟨rfl, rfl⟩
  | some ad =>
    go_enter Tryd.func41, Tryd.ntmps41
    go_wp2_with fail
    go_ret
    exact ⟨rfl, rfl⟩
end Go.Proofs.YtgfmdjagamjpbaaDoor
