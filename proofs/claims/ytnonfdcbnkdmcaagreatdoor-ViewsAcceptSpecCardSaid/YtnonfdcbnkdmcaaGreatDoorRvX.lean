/- the reference 32: Accept, plainly owned rows of heads; the digests of entries as an owned row (the reference 30's Digests) the reference 32: Accept -/
import Derived.Test.YtnonfdcbnkdmcaaGreatDoorAl
import Derived.Test.YtnonfdcbnkdmcaaGreatDoorRvA
import Derived.Test.YtnonfdcbnkdmcaaGreatDoorRvC
namespace Go.Proofs.YtnonfdcbnkdmcaaGreatDoor
open Go.Vw

def insR (h : Hd) : Bool → List Hd → List Hd
 | _, [] => []
 | true, x :: r => x :: insR h true r
 | false, x :: r => if h.no ≤ x.no then (if h.no < x.no then h :: x :: insR h true r else x :: insR h true r) else x :: insR h false r
theorem insR_true (h : Hd) : ∀ l, insR h true l = l
 | [] => rfl
 | x :: r => by unfold insR; rw [insR_true h r]
theorem insR_ins (h : Hd) : ∀ {l : List Hd}, (∃ x ∈ l, h.no ≤ x.no) → insR h false l = insH h l
 | [], hx => by obtain ⟨x, hx, _⟩ := hx; cases hx
 | y :: r, hx => by
  unfold insR insH
  by_cases h1 : y.no < h.no
  · rw [if_neg (by omega), if_pos h1, insR_ins h (by
     obtain ⟨x, hx, hl⟩ := hx
     rcases List.mem_cons.1 hx with rfl | hx
     · omega
     · exact ⟨x, hx, hl⟩)]
  · rw [if_pos (by omega), if_neg h1, insR_true]
    by_cases h2 : y.no = h.no
    · rw [if_neg (by omega), if_pos h2]
    · rw [if_pos (by omega), if_neg h2]
theorem insH_end {h : Hd} : ∀ {l : List Hd}, (∀ x ∈ l, x.no < h.no) → insH h l = l ++ [h]
 | [], _ => rfl
 | y :: r, hx => by
  unfold insH
  rw [if_pos (hx y (by simp)), insH_end (fun x hx' => hx x (by simp [hx']))]
  rfl
theorem insH_is {h : Hd} : ∀ {l : List Hd}, l.Pairwise (fun a b => a.no < b.no) → (∃ x ∈ l, x.no = h.no) → insH h l = l
 | [], _, hx => by obtain ⟨x, hx, _⟩ := hx; cases hx
 | y :: r, hp, hx => by
  rw [List.pairwise_cons] at hp
  obtain ⟨x, hx, he⟩ := hx
  unfold insH
  rcases List.mem_cons.1 hx with rfl | hx
  · rw [if_neg (by omega), if_pos he]
  · rw [if_pos (by have := hp.1 x hx; omega), insH_is hp.2 ⟨x, hx, he⟩]
def endH (h : Hd) (l : List Hd) : List Hd := if (decide (l.length = 0) || decide ((lastH l).no < h.no)) = true then l ++ [h] else l
def refAcc (v : V) (d : List (List Nat)) (h : Hd) : V × Fk × Int :=
 if v.ds.length ≤ d.length then
  if (oddR v.hs d).2 = true then (v, ⟨(oddR v.hs d).1, h, d⟩, 321) else (⟨v.st, v.fo, v.pub, d, endH h v.hs⟩, zeroF, 0)
 else
  if fitsB h v.ds = true then (⟨v.st, v.fo, v.pub, v.ds, insR h false v.hs⟩, zeroF, 0) else (v, ⟨h, lastH v.hs, v.ds⟩, 321)
theorem acc_ref {v : V} {l : List Sto.Ent} {h : Hd} (ok : accOk v l h = true) : accV v l h = refAcc v (l.map (·.dig)) h := by
 obtain ⟨hv, ho, hno, he, hf⟩ := accOk_iff.1 ok
 unfold accV accD refAcc
 rw [if_pos ok]
 have hl := hv.last
 by_cases h1 : v.ds.length ≤ (l.map (·.dig)).length
 · rw [if_pos h1, if_pos h1, accuse_R]
   cases hq : (oddR v.hs (l.map (·.dig))).2 with
   | true => rfl
   | false =>
    have : insH h v.hs = endH h v.hs := by
     unfold endH
     rw [List.length_map] at h1
     cases hh : v.hs with
     | nil => rfl
     | cons x r =>
      have hne : v.hs ≠ [] := by rw [hh]; simp
      rw [← hh]
      by_cases h2 : (lastH v.hs).no < h.no
      · rw [decide_eq_true h2, Bool.or_true, if_pos rfl, insH_end (fun x hx => by have := lastH_max hv.up x hx; omega)]
      · rw [decide_eq_false h2, Bool.or_false, if_neg (by rw [hh]; simp), insH_is hv.up ⟨_, lastH_mem hne, by omega⟩]
    show ((⟨v.st, v.fo, v.pub, l.map (·.dig), insH h v.hs⟩ : V), zeroF, (0 : Int)) = ((⟨v.st, v.fo, v.pub, l.map (·.dig), endH h v.hs⟩ : V), zeroF, (0 : Int))
    rw [this]
 · rw [if_neg h1, if_neg h1, accuse_R, oddR_cons]
   have hle : h.no ≤ (v.ds.length : Int) := by rw [List.length_map] at h1; omega
   have hop : oddP v.ds h = !fitsB h v.ds := by unfold oddP; rw [decide_eq_true hle, Bool.true_and]
   rw [hop]
   cases fitsB h v.ds with
   | true =>
    have hne : v.hs ≠ [] := hv.hs_ne (fun e => by rw [e] at h1; simp at h1)
    rw [insR_ins h ⟨_, lastH_mem hne, by omega⟩]
    rfl
   | false => rfl
end Go.Proofs.YtnonfdcbnkdmcaaGreatDoor
namespace Go.Proofs.YtnonfdcbnkdmcaaGreatDoor
open Go.RowKit Go.Mem Go.Shelf
open Go.Sto (Ent Lg St)
open Go.Vw (Hd)

theorem OwnD.at' {w0 W : World} {v : Value} {ds : List (List Nat)} (h : OwnD w0 W v ds) : ∃ a c, v = .slice a ds.length c ∧ DS W a ds.length c ds ∧ ∀ ad, a = some ad → w0.heap.size ≤ ad.block := by
 obtain ⟨a, c, e, hd⟩ := h.ds
 refine ⟨a, c, e, hd, fun ad ha => ?_⟩
 rcases h.1.2 with ⟨hv, _⟩ | ⟨g, cap, cur, hv, hBg, _⟩
 · rw [e] at hv; injection hv with h1 _ _; rw [h1] at ha; cases ha
 · rw [e] at hv; injection hv with h1 _ _; rw [h1] at ha; cases ha; exact hBg
def DgO (D : List (List Nat)) (n : Nat) (w : World) (e : Ending) (w' : World) : Prop := ∃ a c, e = .returned (.slice a n c) ∧ DS w' a n c D ∧ (∀ ad, a = some ad → w.heap.size ≤ ad.block) ∧ Below w.heap.size w w'
set_option maxRecDepth 20000 in
set_option maxHeartbeats 4000000 in
theorem r30digsO_any (K : Nat → Prop) (a : Option Addr) (n c : Nat) (l : List Ent) (w : World) (H : ES K w a n c l) :
 Calls Tryz.prog 64 #[.slice a n c] w (DgO (l.map (·.dig)) n w) := by
 have H' := Lib.hid H
 have hlen := H.rs.len
 have hbd := H.bd
 have n63 : (n : Int) ≤ 100000 := by omega
 clear H
 obtain ⟨X, hX⟩ : ∃ X, X = DgO (l.map (·.dig)) n w := ⟨_, rfl⟩
 have hfin : Hid (∀ v W, OwnD w W v (l.map (·.dig)) → Below w.heap.size w W → X (.returned v) W) := fun v W hO hb => by
  obtain ⟨a, c, rfl, hD, hlo⟩ := hO.at'
  rw [List.length_map, hlen] at hD ⊢
  rw [hX]
  exact ⟨a, c, rfl, hD, hlo, hb⟩
 rw [← hX]
 clear hX
 go_enter Tryz.func64, Tryz.ntmps64
 go_wp2_with fail
 go_loopw [3, 4] (fun sl i wr => ∃ (k : Nat) (sv : Value), k ≤ n ∧ i = .int .i64 k ∧ sl = sv ∧ Hid (OwnD w wr sv ((l.take k).map (·.dig))) ∧ Hid (Below w.heap.size w wr)) (fun _ i _ => n - (intOf i).toNat)
 case atStart => exact ⟨0, _, Nat.zero_le _, rfl, rfl, own_newD (Below.refl _ _), (Below.refl _ w).alloc (Nat.le_refl _) _⟩
 case round =>
  obtain ⟨k, sv, hk, rfl, rfl, hO, hbw⟩ := hrel
  by_cases hklt : k < n
  case pos =>
   obtain ⟨x, hx⟩ : ∃ x, l[k]? = some x := ⟨_, List.getElem?_eq_getElem (by omega)⟩
   obtain ⟨b, off, r, rfl, hbl, _, ⟨ho, ea, en, ec, rfl, _⟩, hrl, hrg⟩ := (RS.keep (R' := EV K) H'.out.rs (.below hbw.out) fun e r ⟨h1, a, n, c, h2, h3⟩ => ⟨h1, a, n, c, h2, h3.keep (.below hbw.out)⟩).get hx
   have hdr := Lib.hid (EntR.of hrg ho.dig).dig
   have hdi : Hid ((Tryz.prog.info? 32).map (·.size) = some (bv x.dig).length) := by show _ = _; rw [bv_length, ho.dig]; exact size35
   have hdl : ((l.take k).map (·.dig)).length + 1 ≤ 1000000000000 := by rw [List.length_map, List.length_take]; omega
   obtain ⟨v', W7, hr7, hO7, hb7⟩ := append_dg (d := x.dig) hO.out hbw.out ⟨ho.dig, ho.lt⟩ hdl
   rw [show (l.take k).map (·.dig) ++ [x.dig] = (l.take (k + 1)).map (·.dig) from by rw [List.take_succ_eq_append_getElem (List.getElem?_eq_some_iff.1 hx).1, List.map_append, (List.getElem?_eq_some_iff.1 hx).2]; rfl] at hO7
   have hr7' := Lib.hid hr7; have hO7' := Lib.hid hO7; have hb7' := Lib.hid hb7
   have hds := dig_slice1 ho.dig wr
   have k0 : (0 : Int) ≤ (k : Int) := by omega
   have k1 : (k : Int) < (n : Int) := by omega
   clear hr7 hO7 hb7 hO hbw hrg hrl ho hdl hx
   go_wp2_with (first
    | (refine wpList_load_mid (by rfl) 32 _ (by rfl) b (off + k * 35 + 1) (by rfl) (bv x.dig) _ hdr.out Tryz.underlying32 (by rfl) hdi.out ?_)
     | (refine wpList_buildSlice_run (by rfl) 47 1 _ rfl #[(0, .agg (bv x.dig).toArray)] (by simp only [List.map_toArray, List.map_cons, List.map_nil]; rfl) hds ?_)
     | (at_builtin; refine Lib.wpList_append_run _ rfl _ _ _ _ rfl _ _ rfl rfl _ _ (hr7'.out _) ?_))
   go_roundw
   case rel => exact ⟨k + 1, v', by omega, by go_num, rfl, hO7', hb7'⟩
   case measure => simp [intOf]; omega
  case neg =>
   obtain rfl : k = n := by omega
   rw [List.take_of_length_le (by omega)] at hO
   have hf := Lib.hid (hfin.out _ _ hO.out hbw.out)
   clear hfin hO
   go_wp2_with fail
   exact hf.out

def OwnHd (B : Nat) (W : World) (v : Value) (l : List Hd) : Prop := W.ownsRow B 36 37 v l.length (hdRows l) ∧ ∀ h ∈ l, OkH h
theorem hdRows_app (l m : List Hd) : hdRows l ++ hdRows m = hdRows (l ++ m) := by simp [hdRows]
theorem hdRows_1 (h : Hd) : hdRows [h] = hdC h := by simp [hdRows]
theorem OwnHd.nil0 (B : Nat) (W : World) : OwnHd B W (.slice none 0 0) [] := ⟨World.ownsRow_nil W _ _ _, fun _ h => by cases h⟩
theorem empty_heads (W : World) : (Instr.buildSlice 48 0 #[]).run Tryz.prog W = .ok (.slice (some ⟨W.heap.size, 0, none⟩) 0 0) (W.alloc (.cells #[] 36)) := by kernel_rfl
theorem OwnHd.new {B : Nat} {W : World} (hB : B ≤ W.heap.size) : OwnHd B (W.alloc (.cells #[] 36)) (.slice (some ⟨W.heap.size, 0, none⟩) 0 0) [] :=
 ⟨⟨rfl, Or.inr ⟨W.heap.size, 0, #[], rfl, hB, heap_alloc_new W _, Nat.le_refl _, by unfold maxLen; omega, rfl, rfl⟩⟩, fun _ h => by cases h⟩
theorem OwnHd.hs {B : Nat} {W : World} {v : Value} {l : List Hd} (h : OwnHd B W v l) (hn : l.length ≤ 100000) : ∃ a c, v = .slice a l.length c ∧ HS W a l.length c l ∧ ∀ ad, a = some ad → B ≤ ad.block := by
 obtain ⟨a, c, e, hs⟩ := hs_own h.2 h.1 hn
 refine ⟨a, c, e, hs, fun ad ha => ?_⟩
 rcases h.1.2 with ⟨hv, _⟩ | ⟨g, cap, cur, hv, hBg, _⟩
 · rw [e] at hv; injection hv with h1 _ _; rw [h1] at ha; cases ha
 · rw [e] at hv; injection hv with h1 _ _; rw [h1] at ha; cases ha; exact hBg
theorem OwnHd.alloc {B : Nat} {W : World} {v : Value} {l : List Hd} (h : OwnHd B W v l) (o : Obj) : OwnHd B (W.alloc o) v l := ⟨World.ownsRow.alloc h.1 o, h.2⟩
theorem OwnHd.below {B : Nat} {W W' : World} {v : Value} {l : List Hd} (h : OwnHd B W v l) (hb : Below W.heap.size W W') : OwnHd B W' v l := ⟨Sl.owns_below h.1 hb (Nat.le_refl _), h.2⟩
theorem OwnHd.grow {B g : Nat} {W W' : World} {v : Value} {l : List Hd} (h : OwnHd B W v l) (hg : W.grownBy W' (some g)) (hB : g < B) : OwnHd B W' v l :=
 ⟨h.1.kept hg (.inr fun e => by have := (World.ownsRow.lt h.1 _ e).1; omega), h.2⟩
theorem append_hs {W : World} {B : Nat} {v : Value} {l m : List Hd} (ho : OwnHd B W v l) {a : Option Addr} {n c : Nat} (hc : ∀ b, a = some b → ∀ j u, (hdRows m)[j]? = some u → W.cell? (b.add j) = some u) (hnil : a = none → n = 0) (hlen : m.length = n) (hok : ∀ h ∈ m, OkH h) (hn : l.length + n ≤ 1000000) (hB : B ≤ W.heap.size) :
 ∃ v' W', (∀ ty, (Builtin.append_ #[48, 48] ty #[v, .slice a n c]).run Tryz.prog W = .ok v' W') ∧ OwnHd B W' v' (l ++ m) ∧ W.grownBy W' v.ownBlock ∧ ∀ g, v.ownBlock = some g → B ≤ g := by
 obtain ⟨i0, hi, hz0, hz1, hz2⟩ := info_parts infoHz
 obtain ⟨hown, hol⟩ := ho
 have hlo : ∀ g, v.ownBlock = some g → B ≤ g := fun g e => (World.ownsRow.lt hown g e).1
 have hall : ∀ h ∈ l ++ m, OkH h := fun h hh => (List.mem_append.1 hh).elim (hol h) (hok h)
 match a with
 | none =>
  obtain rfl := hnil rfl
  obtain rfl : m = [] := List.eq_nil_of_length_eq_zero hlen
  refine ⟨v, W, fun ty => ?_, by rw [List.append_nil]; exact ⟨hown, hol⟩, World.grownBy.refl W _, hlo⟩
  rcases hown.2 with ⟨rfl, _⟩ | ⟨g, cap, cur, rfl, _, _, hnc, _, _, _⟩
  · simp [Builtin.append_, run_underlying Tryz.underlying48, sizeOf, typeInfo, hi, Builtin.lenOf, Builtin.firstCells]
  · simp [Builtin.append_, run_underlying Tryz.underlying48, sizeOf, typeInfo, hi, Builtin.lenOf, Builtin.firstCells, storeCells, hnc]
 | some ad =>
  obtain ⟨v', w', hr, h2, h3, _⟩ := run_append_own (P := Tryz.prog) W B 48 0 36 i0 _ 37 72 Tryz.underlying48 hi hz0 hz1 hz2 rfl (by omega) v l.length (hdRows l) hown ad n c (hdRows m) (by rw [hdRows_len hok, hlen]) (hc ad rfl) (hdRows_one hok) (by unfold maxLen; omega) (by omega) hB
  refine ⟨v', w', fun ty => by rw [← hr]; rfl, ⟨?_, hall⟩, h3, hlo⟩
  rw [← hdRows_app, List.length_append, hlen]
  exact h2
theorem append_hd {W : World} {B g : Nat} {v : Value} {l : List Hd} {h : Hd} (ho : OwnHd B W v l) (hG : Blk W g 36 (hdC h)) (ok : OkH h) (hn : l.length + 1 ≤ 1000000) (hB : B ≤ W.heap.size) :
 ∃ v' W', (∀ ty, (Builtin.append_ #[48, 48] ty #[v, .slice (some ⟨g, 0, none⟩) 1 1]).run Tryz.prog W = .ok v' W') ∧ OwnHd B W' v' (l ++ [h]) ∧ W.grownBy W' v.ownBlock ∧ ∀ g, v.ownBlock = some g → B ≤ g :=
 append_hs ho (fun b e j u hu => by
  cases e
  rw [hdRows_1] at hu
  rw [Addr.add_lit, Nat.zero_add]
  exact hG.at_ hu) (fun e => by cases e) rfl (fun x hx => by rw [List.mem_singleton] at hx; subst hx; exact ok) hn hB
theorem append_hall {W W0 : World} {B : Nat} {v : Value} {l m : List Hd} {a : Option Addr} {n c : Nat} (ho : OwnHd B W v l) (H : HS W0 a n c m) (hb : Below W0.heap.size W0 W) (hn : l.length + n ≤ 1000000) (hB : B ≤ W.heap.size) :
 ∃ v' W', (∀ ty, (Builtin.append_ #[48, 48] ty #[v, .slice a n c]).run Tryz.prog W = .ok v' W') ∧ OwnHd B W' v' (l ++ m) ∧ W.grownBy W' v.ownBlock ∧ ∀ g, v.ownBlock = some g → B ≤ g := by
 have R := (H.below hb).reads
 refine append_hs ho (fun b e => ?_) (fun e => (R.nil e).1) H.rs.len H.oks hn hB
 subst e
 exact R.news
end Go.Proofs.YtnonfdcbnkdmcaaGreatDoor
namespace Go.Proofs.YtnonfdcbnkdmcaaGreatDoor
open Go.RowKit Go.Mem Go.Shelf
open Go.Sto (Ent)
open Go.Vw (Hd Fk fitsB verH zeroH zeroF zeroV lastH validB checkV ownsB accV accOk entOk)

theorem build_zrV (W : World) : (Instr.build 50 #[]).run Tryz.prog W = .ok (.agg zrV.toArray) W := run_build W _ _ _ (by kernel_rfl)
theorem acc_fin {w W : World} {tb : Nat} {rV rH rR rF : List Value} (h : AccB w tb rV rH zrV zrF W) (lR : rR.length = 5) (oR : ∀ u ∈ rR, u.oneCell' = true) (lF : rF.length = 75) (oF : ∀ u ∈ rF, u.oneCell' = true) :
 ∃ Wa Wb, PutR 50 W Wa (tb + 1 + 1) 50 rR ∧ PutR 53 Wa Wb (tb + 1 + 1 + 1) 53 rF ∧ Blk Wb (tb + 1 + 1) 50 rR ∧ Blk Wb (tb + 1 + 1 + 1) 53 rF ∧ Below w.heap.size w Wb ∧ Blk Wa tb 50 rV ∧ Blk Wa (tb + 1) 36 rH ∧ Blk Wb tb 50 rV ∧ Blk Wb (tb + 1) 36 rH := by
 obtain ⟨Wa, hPa⟩ := put_row (ty := 50) h.bR (x := rR) (by rw [lR]; rfl) (by rw [lR]; exact sizeVw) oR
 obtain ⟨Wb, hPb⟩ := put_row (ty := 53) (h.bF.grown hPa.grown (fun e => by injection e with e; omega)) (x := rF) (by rw [lF]; rfl) (by rw [lF]; exact sizeF) oF
 have hlo := h.lo
 have g1 := h.bV.grown hPa.grown (fun e => by injection e with e; omega)
 have g2 := h.bH.grown hPa.grown (fun e => by injection e with e; omega)
 exact ⟨Wa, Wb, hPa, hPb, hPa.blk.grown hPb.grown (fun e => by injection e with e; omega), hPb.blk, below_grown (below_grown h.bel hPa.grown h.bel.size (by omega)) hPb.grown (Nat.le_trans h.bel.size hPa.grown.size) (by omega), g1, g2, g1.grown hPb.grown (fun e => by injection e with e; omega), g2.grown hPb.grown (fun e => by injection e with e; omega)⟩
structure AcC (w : World) (tb : Nat) (rV rH : List Value) (D : List (List Nat)) (aD : Option Addr) (n cD : Nat) (W : World) : Prop where
 A : AccB w tb rV rH zrV zrF W
 D : DS W aD n cD D
 lo : ∀ ad, aD = some ad → tb + 1 + 1 + 1 < ad.block
theorem AcC.below {w W W' : World} {tb : Nat} {rV rH : List Value} {D : List (List Nat)} {aD : Option Addr} {n cD : Nat} (h : AcC w tb rV rH D aD n cD W) (hb : Below W.heap.size W W') : AcC w tb rV rH D aD n cD W' := ⟨h.A.below hb, h.D.below hb, h.lo⟩
theorem PutR.ds {ty t : TypeId} {W W' : World} {g n c : Nat} {r : List Value} {a : Option Addr} {l : List (List Nat)} (h : PutR ty W W' g t r) (H : DS W a n c l) (hlo : ∀ ad, a = some ad → g < ad.block) : DS W' a n c l := H.grown h.grown (fun _ ad e e2 => by have := hlo ad e; omega)
theorem PutR.hs {ty t : TypeId} {W W' : World} {g n c : Nat} {r : List Value} {a : Option Addr} {l : List Hd} (h : PutR ty W W' g t r) (H : HS W a n c l) (hlo : ∀ ad, a = some ad → g < ad.block) : HS W' a n c l := H.grown h.grown (fun _ ad e e2 => by have := hlo ad e; omega)

set_option maxRecDepth 100000 in
set_option maxHeartbeats 40000000 in
theorem r32accept_any (v : Vw.V) (da : Option Addr) (dn dc : Nat) (ha : Option Addr) (hn hc : Nat) (la : Option Addr) (ln lc : Nat) (es : List Ent) (h : Hd) (ok : OkH h) (w : World) (H : VM w v da dn dc ha hn hc) (HE : ES (fun _ => True) w la ln lc es) (hhn : hn + 1 ≤ 100000) :
 Calls Tryz.prog 31 #[.agg #[.int .i64 v.st, .int .i64 v.fo, .int .i64 v.pub, .slice da dn dc, .slice ha hn hc], .slice la ln lc, .agg (hdC h).toArray] w (AccPost (accV v es h) w) := by
 have H' := Lib.hid H; have HE' := Lib.hid HE; have ok' := Lib.hid ok
 have hlen := Lib.hid HE.rs.len
 have hlb := HE.bd
 have l63 : (ln : Int) ≤ 100000 := by omega
 have d63 : (dn : Int) ≤ 100000 := by have := H.bd; omega
 have h63 : (hn : Int) ≤ 99999 := by omega
 have hdl := Lib.hid H.ds.len
 have hhl := Lib.hid H.hs.rs.len
 clear H HE
 obtain ⟨tb, htb⟩ : ∃ tb, Hid (w.heap.size = tb) := ⟨_, rfl⟩
 obtain ⟨W1, hW1⟩ : ∃ W1, W1 = (((w.alloc (.cells #[.int .i64 v.st, .int .i64 v.fo, .int .i64 v.pub, .slice da dn dc, .slice ha hn hc] 50)).alloc (.cells (hdC h).toArray 36)).alloc (.cells zrV.toArray 50)).alloc (.cells zrF.toArray 53) := ⟨_, rfl⟩
 have A1 : Hid (AccB w tb [.int .i64 v.st, .int .i64 v.fo, .int .i64 v.pub, .slice da dn dc, .slice ha hn hc] (hdC h) zrV zrF W1) := by
  have e1 : (w.alloc (.cells #[.int .i64 v.st, .int .i64 v.fo, .int .i64 v.pub, .slice da dn dc, .slice ha hn hc] 50)).heap.size = tb + 1 := by rw [World.size_alloc, htb.out]
  have e2 : ((w.alloc (.cells #[.int .i64 v.st, .int .i64 v.fo, .int .i64 v.pub, .slice da dn dc, .slice ha hn hc] 50)).alloc (.cells (hdC h).toArray 36)).heap.size = tb + 1 + 1 := by rw [World.size_alloc, e1]
  have e3 : (((w.alloc (.cells #[.int .i64 v.st, .int .i64 v.fo, .int .i64 v.pub, .slice da dn dc, .slice ha hn hc] 50)).alloc (.cells (hdC h).toArray 36)).alloc (.cells zrV.toArray 50)).heap.size = tb + 1 + 1 + 1 := by rw [World.size_alloc, e2]
  rw [hW1]
  refine ⟨?_, ?_, ?_, ?_, ?_, Nat.le_of_eq htb.out⟩
  · rw [← htb.out]; exact (((Blk.new w _ _).alloc _).alloc _).alloc _
  · rw [← e1]; exact ((Blk.new _ _ _).alloc _).alloc _
  · rw [← e2]; exact (Blk.new _ _ _).alloc _
  · rw [← e3]; exact Blk.new _ _ _
  · exact ((((Below.refl _ w).alloc (Nat.le_refl _) _).alloc (by simp) _).alloc (by simp; omega) _).alloc (by simp; omega) _
 have zi := infoF okF0 none 0 0
 rw [show forkC zeroF none 0 0 = zrF from rfl] at zi
 have zone := Lib.hid (forkC_one okF0 none 0 0)
 rw [show forkC zeroF none 0 0 = zrF from rfl] at zone
 have vone : Hid (∀ u ∈ zrV, u.oneCell' = true) := view_one 0 0 0 none none 0 0 0 0
 have hbv := Lib.hid build_zrV
 have hbf := Lib.hid build_zrF
 obtain ⟨X, hX0⟩ : ∃ X, X = AccPost (accV v es h) w := ⟨_, rfl⟩
 have hX : Hid (∀ (y : Vw.V × Fk × Int) a1 n1 c1 a2 n2 c2 a3 n3 c3 W, accV v es h = y → VM W y.1 a1 n1 c1 a2 n2 c2 → OkF y.2.1 → DS W a3 n3 c3 y.2.1.ds → n3 ≤ 100000 → Below w.heap.size w W → X (.returned (.tuple #[.agg #[.int .i64 y.1.st, .int .i64 y.1.fo, .int .i64 y.1.pub, .slice a1 n1 c1, .slice a2 n2 c2], .agg (forkC y.2.1 a3 n3 c3).toArray, .int .i64 y.2.2])) W) := fun y a1 n1 c1 a2 n2 c2 a3 n3 c3 W e h1 h2 h3 h4 h5 => by
  rw [hX0, e]; exact ⟨_, _, _, _, _, _, _, _, _, rfl, h1, h2, h3, h4, h5⟩
 have herr : Hid (accOk v es h = false → ∀ W, Below w.heap.size w W → X (.returned (.tuple #[.agg zrV.toArray, .agg zrF.toArray, .int .i64 320])) W) := fun hf W hb => hX.out (zeroV, zeroF, 320) none 0 0 none 0 0 none 0 0 W (by unfold accV; rw [hf]; rfl) (vm0 W) okF0 (ds_nil W) (by omega) hb
 rw [← hX0]
 clear hX0
 obtain ⟨D, hD⟩ : ∃ D, Hid (es.map (·.dig) = D) := ⟨_, rfl⟩
 have hDl : Hid (D.length = ln) := by show _ = _; rw [← hD.out, List.length_map]; exact hlen.out
 have hck : Hid (∀ W, VM W v da dn dc ha hn hc → Calls Tryz.prog 27 #[.agg #[.int .i64 v.st, .int .i64 v.fo, .int .i64 v.pub, .slice da dn dc, .slice ha hn hc]] W (RetI (checkV v) W)) := fun W h => r32check_any v da dn dc ha hn hc W h
 have hdg := Lib.hid (fun W H => r30digsO_any (fun _ => True) la ln lc es W H)
 rw [hD.out] at hdg
 have hvr := Lib.hid (fun W => ver32b_any v.pub h H'.out.pub ok W)
 have hri := infoHd ok
 have hrl := Lib.hid (hdC_len ok)
 have hro := Lib.hid (hdC_r ok).one
 obtain ⟨vb, hvb⟩ : ∃ vb, Hid (validB v = vb) := ⟨_, rfl⟩
 obtain ⟨ob, hob⟩ : ∃ ob, Hid (verH v.pub h = ob) := ⟨_, rfl⟩
 obtain ⟨xb, hxb⟩ : ∃ xb, Hid (fitsB h D = xb) := ⟨_, rfl⟩
 obtain ⟨G, hG⟩ : ∃ G, Hid (es.all entOk = G) := ⟨_, rfl⟩
 have hok : Hid (accOk v es h = (vb && (decide (h.st = v.st) && decide (h.fo = v.fo) && ob) && decide (h.no = (ln : Int)) && G && xb)) := by show _ = _; rw [← hlen.out, ← hxb.out, ← hG.out, ← hob.out, ← hvb.out, ← hD.out]; rfl
 have href : Hid (accOk v es h = true → accV v es h = refAcc v D h) := fun e => by rw [acc_ref e, hD.out]
 unfold checkV at hck
 rw [hvb.out] at hck
 rw [hob.out] at hvr
 clear hvb hob hD
 obtain ⟨rh, hrh⟩ : ∃ rh, Hid (hdC h = rh) := ⟨_, rfl⟩
 have r0 : Hid (rh[0]? = some (.int .i64 h.st)) := by rw [← hrh.out]; exact hdC_0 h
 have r1 : Hid (rh[1]? = some (.int .i64 h.fo)) := by rw [← hrh.out]; exact hdC_1 h
 have r2 : Hid (rh[2]? = some (.int .i64 h.no)) := by rw [← hrh.out]; exact hdC_2 h
 rw [hrh.out] at A1 hvr hri hrl hro ⊢
 have b0 := A1.out.bV.at_ (i := 0) rfl
 have b1 := A1.out.bV.at_ (i := 1) rfl
 have b2 := A1.out.bV.at_ (i := 2) rfl
 have b3 := A1.out.bV.at_ (i := 3) rfl
 have b4 := A1.out.bV.at_ (i := 4) rfl
 go_enter Tryz.func31, Tryz.ntmps31
 go_upto_region 1 with fail
 rw [htb.out]
 generalize hWq : (((w.alloc _).alloc _).alloc _).alloc _ = Wq
 obtain rfl : W1 = Wq := by rw [← hWq, hW1, hrh.out]; rfl
 clear hWq hW1
 go_wp2_with fail
 refine (hck.out W1 (H'.out.below A1.out.bel)).mono ?_
 rintro e W2 ⟨rfl, hz⟩
 replace A1 := Lib.hid (A1.out.below hz)
 clear hz b0 b1 b2 b3 b4 hck
 cases vb with
 | false =>
  rw [if_neg (by simp)]
  obtain ⟨Wa, Wb, hPa, hPb, hbR, hbF, hbl, hvA, hhA, hvB, hhB⟩ := acc_fin A1.out (rR := zrV) (rF := zrF) rfl vone.out rfl zone.out
  have hPa' := Lib.hid hPa; have hPb' := Lib.hid hPb; have hbR' := Lib.hid hbR; have hbF' := Lib.hid hbF
  have hend := Lib.hid (herr.out (by rw [hok.out]; rfl) Wb hbl)
  clear hPa hPb hbR hbF hbl hvA hhA hvB hhB A1
  generalize zrV = rv at *
  generalize zrF = rf at *
  have hiv : Hid ((Tryz.prog.info? 50).map (·.size) = some rv.length) := by show _ = _; have := hPa'.out.info; rw [List.size_toArray] at this; exact this
  go_wp2_with (first
   | (refine wpList_build_run (by rfl) 50 _ rfl #[] (by simp) (hbv.out _) ?_)
    | (refine wpList_build_run (by rfl) 53 _ rfl #[] (by simp) (hbf.out _) ?_)
    | (refine wpList_store_mid (by rfl) 50 (.tmp 6) (.tmp 23) (by rfl) (tb + 1 + 1) 0 (rv : List Value).toArray (by rfl) (by rfl) hPa'.out.there hPa'.out.info (by simpa using hPa'.out.one) ?_
       generalize hWq : World.setCells _ _ _ _ = Wq
       obtain rfl : Wa = Wq := by rw [← hWq]; exact hPa'.out.eq
       clear hWq)
    | (refine wpList_store_mid (by rfl) 53 (.tmp 7) (.tmp 24) (by rfl) (tb + 1 + 1 + 1) 0 (rf : List Value).toArray (by rfl) (by rfl) hPb'.out.there hPb'.out.info (by simpa using hPb'.out.one) ?_
       generalize hWq : World.setCells _ _ _ _ = Wq
       obtain rfl : Wb = Wq := by rw [← hWq]; exact hPb'.out.eq
       clear hWq))
  exact ret_cell_cell_tmp (fn := Tryz.f31) (p := 6) (q := 7) (u := 8) rfl hbR'.out Tryz.underlying50 rfl hiv.out hbF'.out Tryz.underlying53 rfl zi.out rfl rfl rfl rfl hend.out
 | true =>
  rw [if_pos rfl]
  go_wp2_with fail
  refine (hdg.out W2 (HE'.out.below A1.out.bel)).mono ?_
  rintro e W4 ⟨aD, cD, rfl, hDS, hDlo, hz⟩
  have C4 : Hid (AcC w tb [.int .i64 v.st, .int .i64 v.fo, .int .i64 v.pub, .slice da dn dc, .slice ha hn hc] rh D aD ln cD W4) := ⟨A1.out.below hz, hDS, fun ad e => by have := hDlo ad e; have := A1.out.bF.lt; omega⟩
  clear hDS hDlo hz A1 hdg
  by_cases e1 : h.st = v.st
  case neg =>
   have g1 : (h.st == v.st) = false := by simpa using e1
   have hno := Lib.hid (show accOk v es h = false by rw [hok.out, decide_eq_false e1]; simp)
   clear e1 hok href hvr
   have b0 := C4.out.A.bV.at_ (i := 0) rfl
   have b1 := C4.out.A.bV.at_ (i := 1) rfl
   have b2 := C4.out.A.bV.at_ (i := 2) rfl
   have c0 := C4.out.A.bH.at_ r0.out
   have c1 := C4.out.A.bH.at_ r1.out
   have c2 := C4.out.A.bH.at_ r2.out
   go_upto_region 6 with fail
   clear b0 b1 b2 c0 c1 c2
   go_wp2_with fail
   go_loopw [11, 12] (fun gv i wr => ∃ k : Nat, k ≤ ln ∧ i = .int .i64 (k : Int) ∧ gv = .bool false ∧ wr = W4) (fun _ i _ => ln - (intOf i).toNat)
   case atStart => exact ⟨0, Nat.zero_le _, rfl, rfl, (by first | trivial | rfl)⟩
   case round =>
    obtain ⟨k, hk, rfl, rfl, rfl⟩ := hrel
    by_cases hlt : k < ln
    · have k0 : (0 : Int) ≤ (k : Int) := by omega
      have k1 : (k : Int) < (ln : Int) := by omega
      go_wp2_with fail
      go_roundw
      case rel => exact ⟨k + 1, by omega, by go_num, rfl, (by first | trivial | rfl)⟩
      case measure => simp [intOf]; omega
    · obtain rfl : k = ln := by omega
      have A1 := Lib.hid C4.out.A
      clear hlt hk C4
      obtain ⟨Wa, Wb, hPa, hPb, hbR, hbF, hbl, hvA, hhA, hvB, hhB⟩ := acc_fin A1.out (rR := zrV) (rF := zrF) rfl vone.out rfl zone.out
      have hPa' := Lib.hid hPa; have hPb' := Lib.hid hPb; have hbR' := Lib.hid hbR; have hbF' := Lib.hid hbF
      have hend := Lib.hid (herr.out hno.out Wb hbl)
      clear hPa hPb hbR hbF hbl hvA hhA hvB hhB A1
      generalize zrV = rv at *
      generalize zrF = rf at *
      have hiv : Hid ((Tryz.prog.info? 50).map (·.size) = some rv.length) := by show _ = _; have := hPa'.out.info; rw [List.size_toArray] at this; exact this
      go_wp2_with (first
       | (refine wpList_build_run (by rfl) 50 _ rfl #[] (by simp) (hbv.out _) ?_)
        | (refine wpList_build_run (by rfl) 53 _ rfl #[] (by simp) (hbf.out _) ?_)
        | (refine wpList_store_mid (by rfl) 50 (.tmp 6) (.tmp 75) (by rfl) (tb + 1 + 1) 0 (rv : List Value).toArray (by rfl) (by rfl) hPa'.out.there hPa'.out.info (by simpa using hPa'.out.one) ?_
           generalize hWq : World.setCells _ _ _ _ = Wq
           obtain rfl : Wa = Wq := by rw [← hWq]; exact hPa'.out.eq
           clear hWq)
        | (refine wpList_store_mid (by rfl) 53 (.tmp 7) (.tmp 76) (by rfl) (tb + 1 + 1 + 1) 0 (rf : List Value).toArray (by rfl) (by rfl) hPb'.out.there hPb'.out.info (by simpa using hPb'.out.one) ?_
           generalize hWq : World.setCells _ _ _ _ = Wq
           obtain rfl : Wb = Wq := by rw [← hWq]; exact hPb'.out.eq
           clear hWq))
      exact ret_cell_cell_tmp (fn := Tryz.f31) (p := 6) (q := 7) (u := 8) rfl hbR'.out Tryz.underlying50 rfl hiv.out hbF'.out Tryz.underlying53 rfl zi.out rfl rfl rfl rfl hend.out
  case pos =>
  have g1 : (h.st == v.st) = true := by simpa using e1
  by_cases e2 : h.fo = v.fo
  case neg =>
   have g2 : (h.fo == v.fo) = false := by simpa using e2
   have hno := Lib.hid (show accOk v es h = false by rw [hok.out, decide_eq_false e2]; simp)
   clear e1 e2 hok href hvr
   have b0 := C4.out.A.bV.at_ (i := 0) rfl
   have b1 := C4.out.A.bV.at_ (i := 1) rfl
   have b2 := C4.out.A.bV.at_ (i := 2) rfl
   have c0 := C4.out.A.bH.at_ r0.out
   have c1 := C4.out.A.bH.at_ r1.out
   have c2 := C4.out.A.bH.at_ r2.out
   go_upto_region 6 with fail
   clear b0 b1 b2 c0 c1 c2
   go_wp2_with fail
   go_loopw [11, 12] (fun gv i wr => ∃ k : Nat, k ≤ ln ∧ i = .int .i64 (k : Int) ∧ gv = .bool false ∧ wr = W4) (fun _ i _ => ln - (intOf i).toNat)
   case atStart => exact ⟨0, Nat.zero_le _, rfl, rfl, (by first | trivial | rfl)⟩
   case round =>
    obtain ⟨k, hk, rfl, rfl, rfl⟩ := hrel
    by_cases hlt : k < ln
    · have k0 : (0 : Int) ≤ (k : Int) := by omega
      have k1 : (k : Int) < (ln : Int) := by omega
      go_wp2_with fail
      go_roundw
      case rel => exact ⟨k + 1, by omega, by go_num, rfl, (by first | trivial | rfl)⟩
      case measure => simp [intOf]; omega
    · obtain rfl : k = ln := by omega
      have A1 := Lib.hid C4.out.A
      clear hlt hk C4
      obtain ⟨Wa, Wb, hPa, hPb, hbR, hbF, hbl, hvA, hhA, hvB, hhB⟩ := acc_fin A1.out (rR := zrV) (rF := zrF) rfl vone.out rfl zone.out
      have hPa' := Lib.hid hPa; have hPb' := Lib.hid hPb; have hbR' := Lib.hid hbR; have hbF' := Lib.hid hbF
      have hend := Lib.hid (herr.out hno.out Wb hbl)
      clear hPa hPb hbR hbF hbl hvA hhA hvB hhB A1
      generalize zrV = rv at *
      generalize zrF = rf at *
      have hiv : Hid ((Tryz.prog.info? 50).map (·.size) = some rv.length) := by show _ = _; have := hPa'.out.info; rw [List.size_toArray] at this; exact this
      go_wp2_with (first
       | (refine wpList_build_run (by rfl) 50 _ rfl #[] (by simp) (hbv.out _) ?_)
        | (refine wpList_build_run (by rfl) 53 _ rfl #[] (by simp) (hbf.out _) ?_)
        | (refine wpList_store_mid (by rfl) 50 (.tmp 6) (.tmp 75) (by rfl) (tb + 1 + 1) 0 (rv : List Value).toArray (by rfl) (by rfl) hPa'.out.there hPa'.out.info (by simpa using hPa'.out.one) ?_
           generalize hWq : World.setCells _ _ _ _ = Wq
           obtain rfl : Wa = Wq := by rw [← hWq]; exact hPa'.out.eq
           clear hWq)
        | (refine wpList_store_mid (by rfl) 53 (.tmp 7) (.tmp 76) (by rfl) (tb + 1 + 1 + 1) 0 (rf : List Value).toArray (by rfl) (by rfl) hPb'.out.there hPb'.out.info (by simpa using hPb'.out.one) ?_
           generalize hWq : World.setCells _ _ _ _ = Wq
           obtain rfl : Wb = Wq := by rw [← hWq]; exact hPb'.out.eq
           clear hWq))
      exact ret_cell_cell_tmp (fn := Tryz.f31) (p := 6) (q := 7) (u := 8) rfl hbR'.out Tryz.underlying50 rfl hiv.out hbF'.out Tryz.underlying53 rfl zi.out rfl rfl rfl rfl hend.out
  case pos =>
  have g2 : (h.fo == v.fo) = true := by simpa using e2
  rw [decide_eq_true e1, decide_eq_true e2] at hok
  clear e1 e2
  have b0 := C4.out.A.bV.at_ (i := 0) rfl
  have b1 := C4.out.A.bV.at_ (i := 1) rfl
  have b2 := C4.out.A.bV.at_ (i := 2) rfl
  have c0 := C4.out.A.bH.at_ r0.out
  have c1 := C4.out.A.bH.at_ r1.out
  have c2 := C4.out.A.bH.at_ r2.out
  have hgr := Lib.hid C4.out.A.bH.range
  go_wp2_with (first
   | (refine wpList_load_g (by rfl) 36 (.tmp 5) (by rfl) (tb + 1) 0 (by rfl) rh _ hgr.out Tryz.underlying36 (by rfl) hri.out ?_))
  refine (hvr.out W4).mono ?_
  rintro e W5 ⟨rfl, hz⟩
  replace C4 := Lib.hid (C4.out.below hz)
  clear hz hvr hgr b0 b1 b2 c0 c1 c2 g1 g2
  cases ob with
  | false =>
   have hno := Lib.hid (show accOk v es h = false by rw [hok.out]; simp)
   clear hok href
   have b0 := C4.out.A.bV.at_ (i := 0) rfl
   have b1 := C4.out.A.bV.at_ (i := 1) rfl
   have b2 := C4.out.A.bV.at_ (i := 2) rfl
   have c0 := C4.out.A.bH.at_ r0.out
   have c1 := C4.out.A.bH.at_ r1.out
   have c2 := C4.out.A.bH.at_ r2.out
   go_upto_region 6 with fail
   clear b0 b1 b2 c0 c1 c2
   go_wp2_with fail
   go_loopw [11, 12] (fun gv i wr => ∃ k : Nat, k ≤ ln ∧ i = .int .i64 (k : Int) ∧ gv = .bool false ∧ wr = W5) (fun _ i _ => ln - (intOf i).toNat)
   case atStart => exact ⟨0, Nat.zero_le _, rfl, rfl, (by first | trivial | rfl)⟩
   case round =>
    obtain ⟨k, hk, rfl, rfl, rfl⟩ := hrel
    by_cases hlt : k < ln
    · have k0 : (0 : Int) ≤ (k : Int) := by omega
      have k1 : (k : Int) < (ln : Int) := by omega
      go_wp2_with fail
      go_roundw
      case rel => exact ⟨k + 1, by omega, by go_num, rfl, (by first | trivial | rfl)⟩
      case measure => simp [intOf]; omega
    · obtain rfl : k = ln := by omega
      have A1 := Lib.hid C4.out.A
      clear hlt hk C4
      obtain ⟨Wa, Wb, hPa, hPb, hbR, hbF, hbl, hvA, hhA, hvB, hhB⟩ := acc_fin A1.out (rR := zrV) (rF := zrF) rfl vone.out rfl zone.out
      have hPa' := Lib.hid hPa; have hPb' := Lib.hid hPb; have hbR' := Lib.hid hbR; have hbF' := Lib.hid hbF
      have hend := Lib.hid (herr.out hno.out Wb hbl)
      clear hPa hPb hbR hbF hbl hvA hhA hvB hhB A1
      generalize zrV = rv at *
      generalize zrF = rf at *
      have hiv : Hid ((Tryz.prog.info? 50).map (·.size) = some rv.length) := by show _ = _; have := hPa'.out.info; rw [List.size_toArray] at this; exact this
      go_wp2_with (first
       | (refine wpList_build_run (by rfl) 50 _ rfl #[] (by simp) (hbv.out _) ?_)
        | (refine wpList_build_run (by rfl) 53 _ rfl #[] (by simp) (hbf.out _) ?_)
        | (refine wpList_store_mid (by rfl) 50 (.tmp 6) (.tmp 75) (by rfl) (tb + 1 + 1) 0 (rv : List Value).toArray (by rfl) (by rfl) hPa'.out.there hPa'.out.info (by simpa using hPa'.out.one) ?_
           generalize hWq : World.setCells _ _ _ _ = Wq
           obtain rfl : Wa = Wq := by rw [← hWq]; exact hPa'.out.eq
           clear hWq)
        | (refine wpList_store_mid (by rfl) 53 (.tmp 7) (.tmp 76) (by rfl) (tb + 1 + 1 + 1) 0 (rf : List Value).toArray (by rfl) (by rfl) hPb'.out.there hPb'.out.info (by simpa using hPb'.out.one) ?_
           generalize hWq : World.setCells _ _ _ _ = Wq
           obtain rfl : Wb = Wq := by rw [← hWq]; exact hPb'.out.eq
           clear hWq))
      exact ret_cell_cell_tmp (fn := Tryz.f31) (p := 6) (q := 7) (u := 8) rfl hbR'.out Tryz.underlying50 rfl hiv.out hbF'.out Tryz.underlying53 rfl zi.out rfl rfl rfl rfl hend.out
  | true =>
   by_cases e3 : h.no = (ln : Int)
   case neg =>
    have g3 : (h.no == (ln : Int)) = false := by simpa using e3
    have hno := Lib.hid (show accOk v es h = false by rw [hok.out, decide_eq_false e3]; simp)
    clear e3 hok href
    have b0 := C4.out.A.bV.at_ (i := 0) rfl
    have b1 := C4.out.A.bV.at_ (i := 1) rfl
    have b2 := C4.out.A.bV.at_ (i := 2) rfl
    have c0 := C4.out.A.bH.at_ r0.out
    have c1 := C4.out.A.bH.at_ r1.out
    have c2 := C4.out.A.bH.at_ r2.out
    go_upto_region 6 with fail
    clear b0 b1 b2 c0 c1 c2
    go_wp2_with fail
    go_loopw [11, 12] (fun gv i wr => ∃ k : Nat, k ≤ ln ∧ i = .int .i64 (k : Int) ∧ gv = .bool false ∧ wr = W5) (fun _ i _ => ln - (intOf i).toNat)
    case atStart => exact ⟨0, Nat.zero_le _, rfl, rfl, (by first | trivial | rfl)⟩
    case round =>
     obtain ⟨k, hk, rfl, rfl, rfl⟩ := hrel
     by_cases hlt : k < ln
     · have k0 : (0 : Int) ≤ (k : Int) := by omega
       have k1 : (k : Int) < (ln : Int) := by omega
       go_wp2_with fail
       go_roundw
       case rel => exact ⟨k + 1, by omega, by go_num, rfl, (by first | trivial | rfl)⟩
       case measure => simp [intOf]; omega
     · obtain rfl : k = ln := by omega
       have A1 := Lib.hid C4.out.A
       clear hlt hk C4
       obtain ⟨Wa, Wb, hPa, hPb, hbR, hbF, hbl, hvA, hhA, hvB, hhB⟩ := acc_fin A1.out (rR := zrV) (rF := zrF) rfl vone.out rfl zone.out
       have hPa' := Lib.hid hPa; have hPb' := Lib.hid hPb; have hbR' := Lib.hid hbR; have hbF' := Lib.hid hbF
       have hend := Lib.hid (herr.out hno.out Wb hbl)
       clear hPa hPb hbR hbF hbl hvA hhA hvB hhB A1
       generalize zrV = rv at *
       generalize zrF = rf at *
       have hiv : Hid ((Tryz.prog.info? 50).map (·.size) = some rv.length) := by show _ = _; have := hPa'.out.info; rw [List.size_toArray] at this; exact this
       go_wp2_with (first
        | (refine wpList_build_run (by rfl) 50 _ rfl #[] (by simp) (hbv.out _) ?_)
         | (refine wpList_build_run (by rfl) 53 _ rfl #[] (by simp) (hbf.out _) ?_)
         | (refine wpList_store_mid (by rfl) 50 (.tmp 6) (.tmp 75) (by rfl) (tb + 1 + 1) 0 (rv : List Value).toArray (by rfl) (by rfl) hPa'.out.there hPa'.out.info (by simpa using hPa'.out.one) ?_
            generalize hWq : World.setCells _ _ _ _ = Wq
            obtain rfl : Wa = Wq := by rw [← hWq]; exact hPa'.out.eq
            clear hWq)
         | (refine wpList_store_mid (by rfl) 53 (.tmp 7) (.tmp 76) (by rfl) (tb + 1 + 1 + 1) 0 (rf : List Value).toArray (by rfl) (by rfl) hPb'.out.there hPb'.out.info (by simpa using hPb'.out.one) ?_
            generalize hWq : World.setCells _ _ _ _ = Wq
            obtain rfl : Wb = Wq := by rw [← hWq]; exact hPb'.out.eq
            clear hWq))
       exact ret_cell_cell_tmp (fn := Tryz.f31) (p := 6) (q := 7) (u := 8) rfl hbR'.out Tryz.underlying50 rfl hiv.out hbF'.out Tryz.underlying53 rfl zi.out rfl rfl rfl rfl hend.out
   case pos =>
   have g3 : (h.no == (ln : Int)) = true := by simpa using e3
   rw [decide_eq_true e3] at hok
   have hok2 : Hid (accOk v es h = (G && xb)) := by show _ = _; rw [hok.out]; simp
   clear hok e3
   have c2 := C4.out.A.bH.at_ r2.out
   go_upto_region 6 with fail
   clear c2 g3
   have hGi : Hid ((true && es.all entOk) = G) := by show _ = _; rw [Bool.true_and]; exact hG.out
   clear hG
   go_wp2_with fail
   go_loopw [11, 12] (fun gv i wr => ∃ (k : Nat) (g : Bool), k ≤ ln ∧ i = .int .i64 (k : Int) ∧ gv = .bool g ∧ Hid (AcC w tb [.int .i64 v.st, .int .i64 v.fo, .int .i64 v.pub, .slice da dn dc, .slice ha hn hc] rh D aD ln cD wr) ∧ Hid ((g && (es.drop k).all entOk) = G)) (fun _ i _ => ln - (intOf i).toNat)
   case atStart => exact ⟨0, true, Nat.zero_le _, rfl, rfl, C4, hGi⟩
   case round =>
    clear C4 hGi
    obtain ⟨k, g, hk, rfl, rfl, hC, hg⟩ := hrel
    generalize wr = wq at *
    by_cases hlt : k < ln
    · obtain ⟨x, hx⟩ : ∃ x, es[k]? = some x := ⟨_, List.getElem?_eq_getElem (by have := hlen.out; omega)⟩
      have hg' := hg.out
      rw [List.drop_eq_getElem_cons (by have := hlen.out; omega), (List.getElem?_eq_some_iff.1 hx).2, List.all_cons] at hg'
      have k0 : (0 : Int) ≤ (k : Int) := by omega
      have k1 : (k : Int) < (ln : Int) := by omega
      cases g with
      | false =>
       have hg2 : Hid ((false && (es.drop (k + 1)).all entOk) = G) := by show _ = _; rw [← hg']; simp
       clear hg hg' hx
       go_wp2_with fail
       go_roundw
       case rel => exact ⟨k + 1, false, by omega, by go_num, rfl, hC, hg2⟩
       case measure => simp [intOf]; omega
      | true =>
       obtain ⟨b, off, ee, rfl, hbl, _, ⟨ho, ea, en, ec, rfl, hE⟩, hrl2, hrg⟩ := (RS.keep (R' := EV (fun _ => True)) (HE'.out.below hC.out.A.bel).rs (.below (Below.refl _ wq)) fun e r hh => hh).get hx
       have hee := Lib.hid (r32isEntry_any x ho ea en ec wq hE.bs)
       have hrg' := Lib.hid hrg
       have hei : Hid ((Tryz.prog.info? 75).map (·.size) = some (entC x ea en ec).length) := by show _ = _; rw [entC_length ho.dig]; exact sizeE
       obtain ⟨rx, hrx⟩ : ∃ r, Hid (entC x ea en ec = r) := ⟨_, rfl⟩
       rw [hrx.out] at hrg' hei hee
       generalize entOk x = q at *
       have hgh := Lib.hid hg'
       clear hg' hg hx hrg hrl2 ho hE hrx
       go_wp2_with (first
        | (refine wpList_load_g (by rfl) 75 (.tmp 63) (by rfl) b (off + k * 35) (by rfl) rx _ hrg'.out Tryz.underlying75 (by rfl) hei.out ?_))
       refine hee.out.mono ?_
       rintro e W6 ⟨rfl, hz⟩
       have hC6 := Lib.hid (hC.out.below hz)
       have hg2 : Hid ((q && (es.drop (k + 1)).all entOk) = G) := by show _ = _; rw [← hgh.out]; simp
       clear hz hC hgh hee hrg'
       go_wp2_with fail
       go_roundw
       case rel => exact ⟨k + 1, q, by omega, by go_num, by cases q <;> rfl, hC6, hg2⟩
       case measure => simp [intOf]; omega
    · obtain rfl : k = ln := by omega
      have hgG : g = G := by
       have := hg.out
       rw [List.drop_eq_nil_of_le (by have := hlen.out; omega)] at this
       rw [← this]; simp
      clear hg hlt hk
      subst hgG
      cases g with
      | false =>
       have hno := Lib.hid (show accOk v es h = false by rw [hok2.out]; rfl)
       have A1 := Lib.hid hC.out.A
       clear hC href hok2
       obtain ⟨Wa, Wb, hPa, hPb, hbR, hbF, hbl, hvA, hhA, hvB, hhB⟩ := acc_fin A1.out (rR := zrV) (rF := zrF) rfl vone.out rfl zone.out
       have hPa' := Lib.hid hPa; have hPb' := Lib.hid hPb; have hbR' := Lib.hid hbR; have hbF' := Lib.hid hbF
       have hend := Lib.hid (herr.out hno.out Wb hbl)
       clear hPa hPb hbR hbF hbl hvA hhA hvB hhB A1
       generalize zrV = rv at *
       generalize zrF = rf at *
       have hiv : Hid ((Tryz.prog.info? 50).map (·.size) = some rv.length) := by show _ = _; have := hPa'.out.info; rw [List.size_toArray] at this; exact this
       go_wp2_with (first
        | (refine wpList_build_run (by rfl) 50 _ rfl #[] (by simp) (hbv.out _) ?_)
         | (refine wpList_build_run (by rfl) 53 _ rfl #[] (by simp) (hbf.out _) ?_)
         | (refine wpList_store_mid (by rfl) 50 (.tmp 6) (.tmp 75) (by rfl) (tb + 1 + 1) 0 (rv : List Value).toArray (by rfl) (by rfl) hPa'.out.there hPa'.out.info (by simpa using hPa'.out.one) ?_
            generalize hWq : World.setCells _ _ _ _ = Wq
            obtain rfl : Wa = Wq := by rw [← hWq]; exact hPa'.out.eq
            clear hWq)
         | (refine wpList_store_mid (by rfl) 53 (.tmp 7) (.tmp 76) (by rfl) (tb + 1 + 1 + 1) 0 (rf : List Value).toArray (by rfl) (by rfl) hPb'.out.there hPb'.out.info (by simpa using hPb'.out.one) ?_
            generalize hWq : World.setCells _ _ _ _ = Wq
            obtain rfl : Wb = Wq := by rw [← hWq]; exact hPb'.out.eq
            clear hWq))
       exact ret_cell_cell_tmp (fn := Tryz.f31) (p := 6) (q := 7) (u := 8) rfl hbR'.out Tryz.underlying50 rfl hiv.out hbF'.out Tryz.underlying53 rfl zi.out rfl rfl rfl rfl hend.out
      | true =>
       have hfit := Lib.hid (fun W hb => r32fits_any h ok aD k cD D W hb hlb)
       rw [hxb.out] at hfit
       rw [hrh.out] at hfit
       have hgr := Lib.hid hC.out.A.bH.range
       go_wp2_with (first
        | (refine wpList_load_g (by rfl) 36 (.tmp 5) (by rfl) (tb + 1) 0 (by rfl) rh _ hgr.out Tryz.underlying36 (by rfl) hri.out ?_))
       refine (hfit.out wq hC.out.D).mono ?_
       rintro e W7 ⟨rfl, hz⟩
       replace hC := Lib.hid (hC.out.below hz)
       clear hz hfit hgr
       cases xb with
       | false =>
        have hno := Lib.hid (show accOk v es h = false by rw [hok2.out]; rfl)
        have A1 := Lib.hid hC.out.A
        clear hC href hok2
        obtain ⟨Wa, Wb, hPa, hPb, hbR, hbF, hbl, hvA, hhA, hvB, hhB⟩ := acc_fin A1.out (rR := zrV) (rF := zrF) rfl vone.out rfl zone.out
        have hPa' := Lib.hid hPa; have hPb' := Lib.hid hPb; have hbR' := Lib.hid hbR; have hbF' := Lib.hid hbF
        have hend := Lib.hid (herr.out hno.out Wb hbl)
        clear hPa hPb hbR hbF hbl hvA hhA hvB hhB A1
        generalize zrV = rv at *
        generalize zrF = rf at *
        have hiv : Hid ((Tryz.prog.info? 50).map (·.size) = some rv.length) := by show _ = _; have := hPa'.out.info; rw [List.size_toArray] at this; exact this
        go_wp2_with (first
         | (refine wpList_build_run (by rfl) 50 _ rfl #[] (by simp) (hbv.out _) ?_)
          | (refine wpList_build_run (by rfl) 53 _ rfl #[] (by simp) (hbf.out _) ?_)
          | (refine wpList_store_mid (by rfl) 50 (.tmp 6) (.tmp 75) (by rfl) (tb + 1 + 1) 0 (rv : List Value).toArray (by rfl) (by rfl) hPa'.out.there hPa'.out.info (by simpa using hPa'.out.one) ?_
             generalize hWq : World.setCells _ _ _ _ = Wq
             obtain rfl : Wa = Wq := by rw [← hWq]; exact hPa'.out.eq
             clear hWq)
          | (refine wpList_store_mid (by rfl) 53 (.tmp 7) (.tmp 76) (by rfl) (tb + 1 + 1 + 1) 0 (rf : List Value).toArray (by rfl) (by rfl) hPb'.out.there hPb'.out.info (by simpa using hPb'.out.one) ?_
             generalize hWq : World.setCells _ _ _ _ = Wq
             obtain rfl : Wb = Wq := by rw [← hWq]; exact hPb'.out.eq
             clear hWq))
        exact ret_cell_cell_tmp (fn := Tryz.f31) (p := 6) (q := 7) (u := 8) rfl hbR'.out Tryz.underlying50 rfl hiv.out hbF'.out Tryz.underlying53 rfl zi.out rfl rfl rfl rfl hend.out
       | true =>
        have hrA := Lib.hid (href.out (by rw [hok2.out]; rfl))
        clear href hok2 herr
        have b3 := hC.out.A.bV.at_ (i := 3) rfl
        by_cases hle : dn ≤ k
        · have q1 : decide ((dn : Int) ≤ (k : Int)) = true := decide_eq_true (by omega)
          have q2 : decide (dn ≤ k) = true := decide_eq_true hle
          have hrB : Hid (accV v es h = if (oddR v.hs D).2 = true then (v, ⟨(oddR v.hs D).1, h, D⟩, 321) else (⟨v.st, v.fo, v.pub, D, endH h v.hs⟩, zeroF, 0)) := by
           show _ = _
           rw [hrA.out]
           unfold refAcc
           rw [if_pos (by rw [hdl.out, hDl.out]; exact hle)]
          clear hrA hle
          go_upto_region 13 with fail
          clear b3 q1 q2
          have hod := Lib.hid (fun W h1 h2 => r32odd_any ha hn hc v.hs aD k cD D W h1 h2 hlb)
          have okO := Lib.hid (oddR_ok H'.out.hs D)
          obtain ⟨AC, eAC⟩ : ∃ x, Hid (oddR v.hs D = x) := ⟨_, rfl⟩
          rw [eAC.out] at hod okO hrB
          clear eAC
          obtain ⟨oh, ob⟩ := AC
          simp only [] at okO hrB
          have b4 := hC.out.A.bV.at_ (i := 4) rfl
          go_wp2_with fail
          refine (hod.out W7 (H'.out.hs.below hC.out.A.bel) hC.out.D).mono ?_
          rintro e W8 ⟨rfl, hz⟩
          replace hC := Lib.hid (hC.out.below hz)
          clear hz hod b4
          simp only []
          obtain ⟨qh, hqh⟩ : ∃ q, Hid (W8.heap.size = q) := ⟨_, rfl⟩
          obtain ⟨W9, hQ⟩ := put_row (ty := 36) (Blk.new W8 36 zrH) (x := hdC oh) (by rw [hdC_len okO.out]; rfl) (infoHd okO.out).out (hdC_r okO.out).one
          have hC9 := Lib.hid (hC.out.below (below_grown ((Below.refl _ W8).alloc (Nat.le_refl _) _) hQ.grown (by simp) (Nat.le_refl _)))
          have hH9 : Hid (Blk W9 qh 36 (hdC oh)) := by rw [← hqh.out]; exact hQ.blk
          have hnq : tb + 1 + 1 + 1 < qh := by rw [← hqh.out]; exact hC.out.A.bF.lt
          have hQ' := Lib.hid hQ
          rw [hqh.out] at hQ'
          have hio := infoHd okO.out
          obtain ⟨ro, hro2⟩ : ∃ r, Hid (hdC oh = r) := ⟨_, rfl⟩
          rw [hro2.out] at hH9 hQ' hio ⊢
          clear hQ hC
          go_upto_region 14 with (first
           | (rw [hqh.out]
              refine wpList_store_mid (by rfl) 36 (.tmp 13) (.tmp 88) (by rfl) qh 0 (ro : List Value).toArray (by rfl) (by rfl) hQ'.out.there hQ'.out.info (by simpa using hQ'.out.one) ?_
              generalize hWq : World.setCells _ _ _ _ = Wq
              obtain rfl : W9 = Wq := by rw [← hWq]; exact hQ'.out.eq
              clear hWq))
          try simp only [Act.put]
          clear hQ' hqh
          cases ob with
          | true =>
           have hrC : Hid (accV v es h = (v, ⟨oh, h, D⟩, 321)) := hrB.out
           clear hrB
           have okf : Hid (OkF ⟨oh, h, D⟩) := ⟨okO.out, ok'.out⟩
           have hfb := Lib.hid (fun W => fork_build okO.out ok'.out D aD k cD W)
           have hfl := Lib.hid (forkC_len okf.out aD k cD)
           have hfo := Lib.hid (forkC_one okf.out aD k cD)
           have fi := infoF okf.out aD k cD
           rw [hro2.out, hrh.out] at hfb
           obtain ⟨rf, hrf⟩ : ∃ r, Hid (forkC ⟨oh, h, D⟩ aD k cD = r) := ⟨_, rfl⟩
           rw [hrf.out] at hfb hfl hfo fi
           go_wp2_with fail
           have hCd := hC9.out.below ((Below.refl _ W9).drew)
           have hHd : Blk W9.drew qh 36 ro := hH9.out
           clear hC9 hH9
           refine wp_region_held_drew (S := fun wz => Blk wz tb 50 [.int .i64 v.st, .int .i64 v.fo, .int .i64 v.pub, .slice da dn dc, .slice ha hn hc] ∧ Blk wz (tb + 1) 36 rh ∧ Blk wz qh 36 ro) (by kernel_rfl) (⟨hCd.A.bV, hCd.A.bH, hHd⟩) (fun hHeld => ?_)
           generalize W9.drew = Wd at *
           refine tG 0 (v := ?_) rfl (Or.inl ⟨by rfl, ?_⟩) hHeld ?_
           rotate_left
           · intro wz hSw
             have q0 := hSw.1.at_ (i := 0) rfl
             have q1 := hSw.1.at_ (i := 1) rfl
             have q2 := hSw.1.at_ (i := 2) rfl
             have q3 := hSw.1.at_ (i := 3) rfl
             have q4 := hSw.1.at_ (i := 4) rfl
             go_simp
             all_goals (with_reducible rfl)
           try simp only [Act.put, sA, s0, s1]
           refine tY 1 rfl qh 0 (ro) (fun wz h => h.2.2.range) Tryz.underlying36 hio.out hHeld ?_
           refine tY 2 rfl (tb + 1) 0 (rh) (fun wz h => h.2.1.range) Tryz.underlying36 hri.out hHeld ?_
           refine tQ 3 rfl hHeld ?_
           refine tU 4 rfl #[(0, .agg ro.toArray), (1, .agg rh.toArray), (2, .slice aD k cD)] hfb.out hHeld ?_
           obtain ⟨Wa, Wb, hPa, hPb, hbR, hbF, hbl, hvA, hhA, hvB, hhB⟩ := acc_fin hCd.A (rR := [.int .i64 v.st, .int .i64 v.fo, .int .i64 v.pub, .slice da dn dc, .slice ha hn hc]) (rF := rf) rfl (view_one _ _ _ _ _ _ _ _ _) hfl.out hfo.out
           have hPa' := Lib.hid hPa; have hPb' := Lib.hid hPb; have hbR' := Lib.hid hbR; have hbF' := Lib.hid hbF
           have hHa := hHd.grown hPa.grown (fun e => by injection e with e; omega)
           have hHb := hHa.grown hPb.grown (fun e => by injection e with e; omega)
           have hDb := hPb.ds (hPa.ds hCd.D (fun ad e => by have := hCd.lo ad e; omega)) (fun ad e => by have := hCd.lo ad e; omega)
           have hend : Hid (X (.returned (.tuple #[.agg ([.int .i64 v.st, .int .i64 v.fo, .int .i64 v.pub, .slice da dn dc, .slice ha hn hc] : List Value).toArray, .agg rf.toArray, .int .i64 321])) Wb) := by
            rw [← hrf.out]
            exact hX.out (v, ⟨oh, h, D⟩, 321) _ _ _ _ _ _ _ _ _ Wb hrC.out (H'.out.below hbl) okf.out hDb hlb hbl
           clear hPa hPb hDb hbl
           refine tO 5 rfl (fun K hK => ?_)
           refine wp_store_mid 50 _ _ rfl (tb + 1 + 1) 0 ([.int .i64 v.st, .int .i64 v.fo, .int .i64 v.pub, .slice da dn dc, .slice ha hn hc] : List Value).toArray (by rfl) (by rfl) hPa'.out.there hPa'.out.info (by simpa using hPa'.out.one) ?_
           generalize hWq : World.setCells _ _ _ _ = Wq
           obtain rfl : Wa = Wq := by rw [← hWq]; exact hPa'.out.eq
           clear hWq
           refine hK.out _ _ ⟨hvA, hhA, hHa⟩ (fun hHeld2 => ?_)
           clear hHeld
           have hHeld := hHeld2
           clear hHeld2
           clear hK K
           try simp only [Act.put]
           refine tO 6 rfl (fun K hK => ?_)
           refine wp_store_mid 53 _ _ rfl (tb + 1 + 1 + 1) 0 (rf : List Value).toArray (by rfl) (by rfl) hPb'.out.there hPb'.out.info (by simpa using hPb'.out.one) ?_
           generalize hWq : World.setCells _ _ _ _ = Wq
           obtain rfl : Wb = Wq := by rw [← hWq]; exact hPb'.out.eq
           clear hWq
           refine hK.out _ _ ⟨hvB, hhB, hHb⟩ (fun hHeld2 => ?_)
           clear hHeld
           have hHeld := hHeld2
           clear hHeld2
           clear hK K
           try simp only [Act.put]
           refine tQ 7 rfl hHeld ?_
           refine wpAnyH_done (by kernel_rfl) ?_ _
           clear hHeld
           go_wp2_with fail
           exact ret_cell_cell_tmp (fn := Tryz.f31) (p := 6) (q := 7) (u := 8) rfl hbR'.out Tryz.underlying50 rfl sizeVw hbF'.out Tryz.underlying53 rfl fi.out rfl rfl rfl rfl hend.out
          | false =>
           have hrC : Hid (accV v es h = (⟨v.st, v.fo, v.pub, D, endH h v.hs⟩, zeroF, 0)) := hrB.out
           clear hrB hH9 hio hro2 okO hnq
           have b0 := hC9.out.A.bV.at_ (i := 0) rfl
           have b1 := hC9.out.A.bV.at_ (i := 1) rfl
           have b2 := hC9.out.A.bV.at_ (i := 2) rfl
           have b3 := hC9.out.A.bV.at_ (i := 3) rfl
           have b4 := hC9.out.A.bV.at_ (i := 4) rfl
           obtain ⟨qx, hqx⟩ : ∃ q, Hid (W9.heap.size = q) := ⟨_, rfl⟩
           obtain ⟨Wx, hQ⟩ := put_row (ty := 50) (Blk.new W9 50 zrV) (x := [.int .i64 v.st, .int .i64 v.fo, .int .i64 v.pub, .slice da dn dc, .slice ha hn hc]) rfl sizeVw (view_one _ _ _ _ _ _ _ _ _)
           have hCx := Lib.hid (hC9.out.below (below_grown ((Below.refl _ W9).alloc (Nat.le_refl _) _) hQ.grown (by simp) (Nat.le_refl _)))
           have hXx : Hid (Blk Wx qx 50 [.int .i64 v.st, .int .i64 v.fo, .int .i64 v.pub, .slice da dn dc, .slice ha hn hc]) := by rw [← hqx.out]; exact hQ.blk
           have hnx : tb + 1 + 1 + 1 < qx := by rw [← hqx.out]; exact hC9.out.A.bF.lt
           have hdx : Hid (0 < k → ∀ ad, aD = some ad → ad.block ≠ qx) := fun hp ad e => by have := hC9.out.D.at_lt hp ad e; have := hqx.out; omega
           have hQ' := Lib.hid hQ
           rw [hqx.out] at hQ'
           clear hQ hC9
           go_upto_region 17 with (first
            | (rw [hqx.out]
               refine wpList_store_mid (by rfl) 50 (.tmp 15) (.tmp 96) (by rfl) qx 0 ([.int .i64 v.st, .int .i64 v.fo, .int .i64 v.pub, .slice da dn dc, .slice ha hn hc] : List Value).toArray (by rfl) (by rfl) hQ'.out.there hQ'.out.info (by simpa using hQ'.out.one) ?_
               generalize hWq : World.setCells _ _ _ _ = Wq
               obtain rfl : Wx = Wq := by rw [← hWq]; exact hQ'.out.eq
               clear hWq))
           try simp only [Act.put]
           clear hQ' hqx b0 b1 b2 b3 b4
           have x3 := hXx.out.at_ (i := 3) rfl
           have f3 := hXx.out.frozen 3
           go_upto_region 18 with fail
           clear x3 f3
           generalize hWy : Wx.setCell ⟨qx, 3, none⟩ _ = Wy
           have hgs : Wx.grownBy Wy (some qx) := by rw [← hWy]; exact grown_set (World.grownBy.refl Wx _) (.inl rfl) _
           have hXy : Hid (Blk Wy qx 50 [.int .i64 v.st, .int .i64 v.fo, .int .i64 v.pub, .slice aD k cD, .slice ha hn hc]) := by rw [← hWy]; exact hXx.out.set 3 _

           have hCy : Hid (AcC w tb [.int .i64 v.st, .int .i64 v.fo, .int .i64 v.pub, .slice da dn dc, .slice ha hn hc] rh D aD k cD Wy) := ⟨hCx.out.A.far hgs hnx, hCx.out.D.grown hgs hdx.out, hCx.out.lo⟩
           clear hCx hXx hgs hWy
           have hv4 : Hid (∀ wz, Below Wy.heap.size Wy wz → wz.cell? ⟨tb, 4, none⟩ = some (.slice ha hn hc)) := fun wz hw => (hCy.out.A.bV.below hw hCy.out.A.bV.lt).at_ (i := 4) rfl
           have hsl := Lib.hid (fun W => hd_slice1 ok'.out W)
           rw [hrh.out] at hsl
           have hhl2 := hhl.out
           by_cases hn0 : hn = 0
           · have hz1 : Hid (((hn : Int) == 0) = true) := by show _ = _; simpa using hn0
             have hz2 : Hid (decide ((hn : Int) = 0) = true) := decide_eq_true (by omega)
             have hz3 : Hid (decide (hn = 0) = true) := decide_eq_true hn0
             have hz4 : Hid ((hn == 0) = true) := by show _ = _; simpa using hn0
             have hcond : Hid ((decide (v.hs.length = 0) || decide ((lastH v.hs).no < h.no)) = true) := by show _ = _; rw [decide_eq_true (by omega)]; rfl
             clear hn0
             refine wp_region_held_drew (S := fun wz => Below Wy.heap.size Wy wz) (by kernel_rfl) ((Below.refl _ Wy).drew) (fun hHeld => ?_)
             generalize Wy.drew = Wd at *
             refine tQ 0 rfl hHeld ?_
             refine tX 1 rfl (fun wz hSw => hv4.out wz hSw) hHeld ?_
             refine tQ 2 rfl hHeld ?_
             refine tG 3 (v := ?_) rfl (Or.inl ⟨by rfl, ?_⟩) hHeld ?_
             rotate_left
             · intro wz hSw
               have z1 := hz1.out
               have z2 := hz2.out
               have z3 := hz3.out
               have z4 := hz4.out
               go_simp
               all_goals (with_reducible rfl)
             try simp only [Act.put, sA, s0, s1]
             refine tQ 4 rfl hHeld ?_
             refine tS 5 rfl hHeld ?_
             refine tS 6 rfl hHeld ?_
             refine tS 7 rfl hHeld ?_
             refine tS 8 rfl hHeld ?_
             refine rd (rs := [9]) ?_
             refine AllReadyH.cons (o := ⟨some 108, .call { callee := .value (.func 52), args := #[.tmp 107], argTypes := #[48] }, 36, "ref.go:88", #[⟨8, .data⟩, ⟨4, .chain⟩, ⟨4, .guard⟩], some (4, false)⟩) rfl (fun K hK => ?_) AllReadyH.nil
             rw [if_neg (Bool.eq_false_iff.1 (by kernel_rfl))]
             refine hK.out _ _ hHeld (fun hHeld => ?_)
             clear hK K
             try simp only [Act.put, sA, s0, s1]
             refine tS 10 rfl hHeld ?_
             refine tS 11 rfl hHeld ?_
             refine tQ 12 rfl hHeld ?_
             refine wpAnyH_done (by kernel_rfl) ?_ _
             have hrD : Hid (accV v es h = (⟨v.st, v.fo, v.pub, D, v.hs ++ [h]⟩, zeroF, 0)) := by show _ = _; rw [hrC.out]; unfold endH; rw [hcond.out]; rfl
             have hCz := Lib.hid (hCy.out.below hHeld)
             have hXz := Lib.hid (hXy.out.below hHeld hXy.out.lt)
             clear hHeld hCy hXy hrC hcond
             go_wp2_with fail
             have hCv := hCz.out.below ((Below.refl _ Wd).drew)
             have hXv : Blk Wd.drew qx 50 [.int .i64 v.st, .int .i64 v.fo, .int .i64 v.pub, .slice aD k cD, .slice ha hn hc] := hXz.out
             clear hCz hXz
             refine wp_region_held_drew (S := fun wz => AccB w tb [.int .i64 v.st, .int .i64 v.fo, .int .i64 v.pub, .slice da dn dc, .slice ha hn hc] rh zrV zrF wz ∧ (∃ a n c, Blk wz qx 50 [.int .i64 v.st, .int .i64 v.fo, .int .i64 v.pub, .slice aD k cD, .slice a n c])) (by kernel_rfl) (⟨hCv.A, ⟨_, _, _, hXv⟩⟩) (fun hHeld => ?_)
             generalize Wd.drew = V0 at *
             obtain ⟨B0, hB0⟩ : ∃ B0, Hid (V0.heap.size = B0) := ⟨_, rfl⟩
             have hxB : qx < B0 := by rw [← hB0.out]; exact hXv.lt
             have hDv := Lib.hid hCv.D
             have hlv := Lib.hid hCv.lo
             have hHv := Lib.hid (H'.out.hs.below hCv.A.bel)
             have hDB : Hid (0 < k → ∀ ad, aD = some ad → ad.block ≠ qx) := hdx
             obtain ⟨VZ, hVZ⟩ : ∃ V, V = V0 := ⟨_, rfl⟩
             have bB : Below V0.heap.size V0 VZ := by rw [hVZ]; exact Below.refl _ _
             rw [← hVZ] at hHeld ⊢
             rw [hB0.out] at bB
             clear hVZ hCv hXv
             refine tQ 1 rfl hHeld ?_
             refine tX 2 rfl (fun wz hSw => hSw.1.bV.at_ (i := 4) rfl) hHeld ?_
             refine tY 4 rfl (tb + 1) 0 (rh) (fun wz h => h.1.bH.range) Tryz.underlying36 hri.out hHeld ?_
             refine share (G := ∀ (e5 : Nat) (g5 : Nat) (v1 : Value) (WZ : World), (AccB w tb [.int .i64 v.st, .int .i64 v.fo, .int .i64 v.pub, .slice da dn dc, .slice ha hn hc] rh zrV zrF WZ ∧ (∃ a n c, Blk WZ qx 50 [.int .i64 v.st, .int .i64 v.fo, .int .i64 v.pub, .slice aD k cD, .slice a n c])) → (Below B0 V0 WZ) → (OwnHd B0 WZ v1 v.hs) → (Blk WZ g5 36 rh) → (B0 ≤ g5) → (?GaS035 : Nat → Nat → Value → World → Prop) e5 g5 v1 WZ) ?haS035 ?kaS035
             case' haS035 => intro KS035
             case' haS035 =>
              refine share (G := ∀ (e5 : Nat) (g5 : Nat) (WZ : World), (AccB w tb [.int .i64 v.st, .int .i64 v.fo, .int .i64 v.pub, .slice da dn dc, .slice ha hn hc] rh zrV zrF WZ ∧ (∃ a n c, Blk WZ qx 50 [.int .i64 v.st, .int .i64 v.fo, .int .i64 v.pub, .slice aD k cD, .slice a n c])) → (Below B0 V0 WZ) → (OwnHd B0 WZ (.slice (some ⟨e5, 0, none⟩) 0 0) []) → (Blk WZ g5 36 rh) → (B0 ≤ g5) → (e5 ≠ g5) → (?GaS05 : Nat → Nat → World → Prop) e5 g5 WZ) ?haS05 ?kaS05
             case' haS05 => intro KS05
             case' haS05 =>
              refine share (G := ∀ (e5 : Nat) (v1 : Value) (WZ : World), (AccB w tb [.int .i64 v.st, .int .i64 v.fo, .int .i64 v.pub, .slice da dn dc, .slice ha hn hc] rh zrV zrF WZ ∧ (∃ a n c, Blk WZ qx 50 [.int .i64 v.st, .int .i64 v.fo, .int .i64 v.pub, .slice aD k cD, .slice a n c])) → (Below B0 V0 WZ) → (OwnHd B0 WZ v1 v.hs) → (?GaS03 : Nat → Value → World → Prop) e5 v1 WZ) ?haS03 ?kaS03
             case' haS03 => intro KS03
             case' haS03 =>
              refine share (G := ∀ (e5 : Nat) (WZ : World), (AccB w tb [.int .i64 v.st, .int .i64 v.fo, .int .i64 v.pub, .slice da dn dc, .slice ha hn hc] rh zrV zrF WZ ∧ (∃ a n c, Blk WZ qx 50 [.int .i64 v.st, .int .i64 v.fo, .int .i64 v.pub, .slice aD k cD, .slice a n c])) → (Below B0 V0 WZ) → (OwnHd B0 WZ (.slice (some ⟨e5, 0, none⟩) 0 0) []) → (?GaS0 : Nat → World → Prop) e5 WZ) ?haS0 ?kaS0
             case' haS0 => intro KS0
             case' haS0 =>
              refine share (G := ∀ (g5 : Nat) (WZ : World), (AccB w tb [.int .i64 v.st, .int .i64 v.fo, .int .i64 v.pub, .slice da dn dc, .slice ha hn hc] rh zrV zrF WZ ∧ (∃ a n c, Blk WZ qx 50 [.int .i64 v.st, .int .i64 v.fo, .int .i64 v.pub, .slice aD k cD, .slice a n c])) → (Below B0 V0 WZ) → (Blk WZ g5 36 rh) → (B0 ≤ g5) → (?GaS5 : Nat → World → Prop) g5 WZ) ?haS5 ?kaS5
             case' haS5 => intro KS5
             case haS5 =>
              refine rd (rs := [0, 5]) ?_
              refine tR rfl (fun K hK => ?_) (tR rfl (fun K hK => ?_) rn)
              case refine_1 =>
               have hX5 := hHeld.2
               refine wp_buildSlice_run 48 0 #[] rfl #[] (by simp) (empty_heads VZ) ?_
               refine hK.out _ _ ⟨hHeld.1.below ((Below.refl _ VZ).alloc (Nat.le_refl _) _), hX5.imp fun a h => h.imp fun n h => h.imp fun c h => h.below ((Below.refl _ VZ).alloc (Nat.le_refl _) _) h.lt⟩ (fun hHeld2 => ?_)
               clear hK K hX5
               try simp only [Act.put, sA, s0, s1]
               have bB2 := bB.alloc (hB0.out ▸ bB.size) (.cells #[] 36)
               have hE2 := OwnHd.new (B := B0) (W := VZ) (hB0.out ▸ bB.size)
               generalize VZ.heap.size = e5 at *
               generalize World.alloc VZ _ = W2 at *
               exact KS0 e5 W2 (hHeld2) (bB2) (hE2)
              case refine_2 =>
               have hX5 := hHeld.2
               refine wp_buildSlice_run _ _ _ rfl #[(0, .agg rh.toArray)] (by simp only [List.map_toArray, List.map_cons, List.map_nil]; rfl) (hsl.out _) ?_
               refine hK.out _ _ ⟨hHeld.1.below ((Below.refl _ VZ).alloc (Nat.le_refl _) _), hX5.imp fun a h => h.imp fun n h => h.imp fun c h => h.below ((Below.refl _ VZ).alloc (Nat.le_refl _) _) h.lt⟩ (fun hHeld2 => ?_)
               clear hK K hX5
               try simp only [Act.put, sA, s0, s1]
               have bB2 := bB.alloc (hB0.out ▸ bB.size) (.cells rh.toArray 36)
               have hG2 := Blk.new VZ 36 rh
               have hGl2 := (hB0.out ▸ bB.size)
               generalize VZ.heap.size = g5 at *
               generalize World.alloc VZ _ = W2 at *
               exact KS5 g5 W2 (hHeld2) (bB2) (hG2) (hGl2)
             case kaS0 =>
              intro e5 WZ hHeld bB hE
              refine rd (rs := [3, 5]) ?_
              refine tR rfl (fun K hK => ?_) (tR rfl (fun K hK => ?_) rn)
              case refine_1 =>
               have hX5 := hHeld.2
               obtain ⟨v1, W2, hr1, hO2, hgr, hlw⟩ := append_hall hE hHv.out (hB0.out ▸ bB) (by simp only [List.length_nil]; omega) (hB0.out ▸ bB.size)
               rw [List.nil_append] at hO2
               have hgr2 := (Below.refl B0 WZ).grown hgr (hB0.out ▸ bB.size) hlw
               have hHeld2 : AccB w tb [.int .i64 v.st, .int .i64 v.fo, .int .i64 v.pub, .slice da dn dc, .slice ha hn hc] rh zrV zrF W2 ∧ (∃ a n c, Blk W2 qx 50 [.int .i64 v.st, .int .i64 v.fo, .int .i64 v.pub, .slice aD k cD, .slice a n c]) := ⟨hHeld.1.belowB hgr2 (by omega), hX5.imp fun a h => h.imp fun n h => h.imp fun c h => h.below hgr2 hxB⟩
               have bB2 := bB.trans hgr2
               refine wp_append_run rfl _ _ (by rfl) (by rfl) (hr1 _) ?_
               refine hK.out _ _ hHeld2 (fun _ => ?_)
               clear hK K hX5
               try simp only [Act.put, sA, s0, s1]
               exact KS03 e5 v1 W2 (hHeld2) (bB2) (hO2)
              case refine_2 =>
               have hX5 := hHeld.2
               refine wp_buildSlice_run _ _ _ rfl #[(0, .agg rh.toArray)] (by simp only [List.map_toArray, List.map_cons, List.map_nil]; rfl) (hsl.out _) ?_
               refine hK.out _ _ ⟨hHeld.1.below ((Below.refl _ WZ).alloc (Nat.le_refl _) _), hX5.imp fun a h => h.imp fun n h => h.imp fun c h => h.below ((Below.refl _ WZ).alloc (Nat.le_refl _) _) h.lt⟩ (fun hHeld2 => ?_)
               clear hK K hX5
               try simp only [Act.put, sA, s0, s1]
               have bB2 := bB.alloc (hB0.out ▸ bB.size) (.cells rh.toArray 36)
               have hG2 := Blk.new WZ 36 rh
               have hGl2 := (hB0.out ▸ bB.size)
               have hE2 := hE.alloc (.cells rh.toArray 36)
               have hN2 : e5 ≠ WZ.heap.size := by have := (World.ownsRow.lt hE.1 e5 rfl).2; omega
               generalize WZ.heap.size = g5 at *
               generalize World.alloc WZ _ = W2 at *
               exact KS05 e5 g5 W2 (hHeld2) (bB2) (hE2) (hG2) (hGl2) (hN2)
             case kaS5 =>
              intro g5 WZ hHeld bB hG hGl
              refine tO 0 rfl (fun K hK => ?_)
              have hX5 := hHeld.2
              refine wp_buildSlice_run 48 0 #[] rfl #[] (by simp) (empty_heads WZ) ?_
              refine hK.out _ _ ⟨hHeld.1.below ((Below.refl _ WZ).alloc (Nat.le_refl _) _), hX5.imp fun a h => h.imp fun n h => h.imp fun c h => h.below ((Below.refl _ WZ).alloc (Nat.le_refl _) _) h.lt⟩ (fun hHeld2 => ?_)
              clear hK K hX5
              try simp only [Act.put, sA, s0, s1]
              have bB2 := bB.alloc (hB0.out ▸ bB.size) (.cells #[] 36)
              have hE2 := OwnHd.new (B := B0) (W := WZ) (hB0.out ▸ bB.size)
              have hG2 := hG.alloc (.cells #[] 36)
              have hN2 : WZ.heap.size ≠ g5 := by have := hG.lt; omega
              generalize WZ.heap.size = e5 at *
              generalize World.alloc WZ _ = W2 at *
              exact KS05 e5 g5 W2 (hHeld2) (bB2) (hE2) (hG2) (hGl) (hN2)
             case kaS05 =>
              intro e5 g5 WZ hHeld bB hE hG hGl hN
              refine tO 3 rfl (fun K hK => ?_)
              have hX5 := hHeld.2
              obtain ⟨v1, W2, hr1, hO2, hgr, hlw⟩ := append_hall hE hHv.out (hB0.out ▸ bB) (by simp only [List.length_nil]; omega) (hB0.out ▸ bB.size)
              rw [List.nil_append] at hO2
              have hgr2 := (Below.refl B0 WZ).grown hgr (hB0.out ▸ bB.size) hlw
              have hHeld2 : AccB w tb [.int .i64 v.st, .int .i64 v.fo, .int .i64 v.pub, .slice da dn dc, .slice ha hn hc] rh zrV zrF W2 ∧ (∃ a n c, Blk W2 qx 50 [.int .i64 v.st, .int .i64 v.fo, .int .i64 v.pub, .slice aD k cD, .slice a n c]) := ⟨hHeld.1.belowB hgr2 (by omega), hX5.imp fun a h => h.imp fun n h => h.imp fun c h => h.below hgr2 hxB⟩
              have bB2 := bB.trans hgr2
              have hG2 := hG.grown hgr (fun e => by injection e with e; exact hN e.symm)
              refine wp_append_run rfl _ _ (by rfl) (by rfl) (hr1 _) ?_
              refine hK.out _ _ hHeld2 (fun _ => ?_)
              clear hK K hX5
              try simp only [Act.put, sA, s0, s1]
              exact KS035 e5 g5 v1 W2 (hHeld2) (bB2) (hO2) (hG2) (hGl)
             case kaS03 =>
              intro e5 v1 WZ hHeld bB hO
              refine tO 5 rfl (fun K hK => ?_)
              have hX5 := hHeld.2
              refine wp_buildSlice_run _ _ _ rfl #[(0, .agg rh.toArray)] (by simp only [List.map_toArray, List.map_cons, List.map_nil]; rfl) (hsl.out _) ?_
              refine hK.out _ _ ⟨hHeld.1.below ((Below.refl _ WZ).alloc (Nat.le_refl _) _), hX5.imp fun a h => h.imp fun n h => h.imp fun c h => h.below ((Below.refl _ WZ).alloc (Nat.le_refl _) _) h.lt⟩ (fun hHeld2 => ?_)
              clear hK K hX5
              try simp only [Act.put, sA, s0, s1]
              have bB2 := bB.alloc (hB0.out ▸ bB.size) (.cells rh.toArray 36)
              have hG2 := Blk.new WZ 36 rh
              have hGl2 := (hB0.out ▸ bB.size)
              have hO2 := hO.alloc (.cells rh.toArray 36)
              generalize WZ.heap.size = g5 at *
              generalize World.alloc WZ _ = W2 at *
              exact KS035 e5 g5 v1 W2 (hHeld2) (bB2) (hO2) (hG2) (hGl2)
             case kaS035 =>
              intro e5 g5 v1 WZ hHeld bB hO hG hGl
              refine tO 6 rfl (fun K hK => ?_)
              have hX5 := hHeld.2
              obtain ⟨v2, W6, hr6, hO6, hgr6, hlw⟩ := append_hd (h := h) hO (by rw [hrh.out]; exact hG) ok'.out (by omega) (hB0.out ▸ bB.size)
              have hbg := (Below.refl B0 WZ).grown hgr6 (hB0.out ▸ bB.size) hlw
              have bB6 := bB.trans hbg
              refine wp_append_run rfl _ _ (by rfl) (by rfl) (hr6 _) ?_
              refine hK.out _ _ (⟨hHeld.1.belowB hbg (by omega), hX5.imp fun a h => h.imp fun n h => h.imp fun c h => h.below hbg hxB⟩) (fun hHeld2 => ?_)
              clear hHeld hK K hX5
              have hHeld := hHeld2
              clear hHeld2
              try simp only [Act.put, sA, s0, s1]
              obtain ⟨a9, c9, rfl, hH9, hlo9⟩ := hO6.hs (by rw [List.length_append, List.length_singleton]; omega)
              rw [show (v.hs ++ [h]).length = hn + 1 by rw [List.length_append, List.length_singleton, hhl.out]] at hH9 hr6 ⊢
              clear hr6 hO6 hO hG hgr6 hbg bB
              refine tQ 7 rfl hHeld ?_
              refine tO 8 rfl (fun K hK => ?_)
              obtain ⟨a3, n3, c3, hX3⟩ := hHeld.2
              have q2 := hX3.at_ (i := 4) (x := .slice a3 n3 c3) rfl
              have f2 := hX3.frozen 4
              show Oper.wp _ _ _ _ K _
              go_simp
              have hset : Blk (W6.setCell ⟨qx, 4, none⟩ (.slice a9 (hn + 1) c9)) qx 50 [.int .i64 v.st, .int .i64 v.fo, .int .i64 v.pub, .slice aD k cD, .slice a9 (hn + 1) c9] := hX3.set 4 (.slice a9 (hn + 1) c9)
              have hgs2 : W6.grownBy (W6.setCell ⟨qx, 4, none⟩ (.slice a9 (hn + 1) c9)) (some qx) := grown_set (World.grownBy.refl W6 _) (.inl rfl) _
              have hA9 := hHeld.1.far hgs2 hnx
              have hDz := Lib.hid ((hDv.out.below (hB0.out ▸ bB6)).grown hgs2 hDB.out)
              have hH9' := Lib.hid (hH9.grown hgs2 (fun _ ad e e2 => by have := hlo9 ad e; omega))
              refine hK.out _ _ (⟨hA9, ⟨_, _, _, hset⟩⟩ : AccB w tb [.int .i64 v.st, .int .i64 v.fo, .int .i64 v.pub, .slice da dn dc, .slice ha hn hc] rh zrV zrF (W6.setCell ⟨qx, 4, none⟩ (.slice a9 (hn + 1) c9)) ∧ (∃ a n c, Blk (W6.setCell ⟨qx, 4, none⟩ (.slice a9 (hn + 1) c9)) qx 50 [.int .i64 v.st, .int .i64 v.fo, .int .i64 v.pub, .slice aD k cD, .slice a n c])) (fun _ => ?_)
              clear hHeld hK K hH9 q2 f2 hgs2 hX3
              try simp only [Act.put, sA, s0, s1]
              refine wpAnyH_done (by kernel_rfl) ?_ _
              generalize W6.setCell ⟨qx, 4, none⟩ (.slice a9 (hn + 1) c9) = V5 at *
              have hXz := Lib.hid hset
              have hlz := hlv
              have hHz : Hid (∀ Wa Wb, PutR 50 V5 Wa (tb + 1 + 1) 50 [.int .i64 v.st, .int .i64 v.fo, .int .i64 v.pub, .slice aD k cD, .slice a9 (hn + 1) c9] → PutR 53 Wa Wb (tb + 1 + 1 + 1) 53 zrF → Below w.heap.size w Wb → HS Wb a9 (hn + 1) c9 (v.hs ++ [h])) := fun Wa Wb h1 h2 _ => h2.hs (h1.hs hH9'.out (fun ad e => by have := hlo9 ad e; omega)) (fun ad e => by have := hlo9 ad e; omega)
              obtain ⟨Wa, Wb, hPa, hPb, hbR, hbF, hbl, hvA, hhA, hvB, hhB⟩ := acc_fin hA9 (rR := [.int .i64 v.st, .int .i64 v.fo, .int .i64 v.pub, .slice aD k cD, .slice a9 (hn + 1) c9]) (rF := zrF) rfl (view_one _ _ _ _ _ _ _ _ _) rfl zone.out
              have hPa' := Lib.hid hPa; have hPb' := Lib.hid hPb; have hbR' := Lib.hid hbR; have hbF' := Lib.hid hbF
              have hend : Hid (X (.returned (.tuple #[.agg ([.int .i64 v.st, .int .i64 v.fo, .int .i64 v.pub, .slice aD k cD, .slice a9 (hn + 1) c9] : List Value).toArray, .agg (zrF).toArray, .int .i64 0])) Wb) := hX.out (⟨v.st, v.fo, v.pub, D, v.hs ++ [h]⟩, zeroF, 0) aD k cD a9 (hn + 1) c9 none 0 0 Wb hrD.out ⟨H'.out.st, H'.out.fo, H'.out.pub, hPb.ds (hPa.ds hDz.out (fun ad e => by have := hlz.out ad e; omega)) (fun ad e => by have := hlz.out ad e; omega), hHz.out Wa Wb hPa hPb hbl, hlb⟩ okF0 (ds_nil Wb) (by omega) hbl
              have x0 := hXz.out.at_ (i := 0) rfl
              have x1 := hXz.out.at_ (i := 1) rfl
              have x2 := hXz.out.at_ (i := 2) rfl
              have x3 := hXz.out.at_ (i := 3) rfl
              have x4 := hXz.out.at_ (i := 4) rfl
              clear hPa hPb hbR hbF hbl hvA hhA hvB hhB
              generalize zrF = rf at *
              go_wp2_with (first
               | (refine wpList_build_run (by rfl) 53 _ rfl #[] (by simp) (hbf.out _) ?_)
                | (refine wpList_store_mid (by rfl) 50 (.tmp 6) (.tmp 120) (by rfl) (tb + 1 + 1) 0 ([.int .i64 v.st, .int .i64 v.fo, .int .i64 v.pub, .slice aD k cD, .slice a9 (hn + 1) c9] : List Value).toArray (by rfl) (by rfl) hPa'.out.there hPa'.out.info (by simpa using hPa'.out.one) ?_
                   generalize hWq : World.setCells _ _ _ _ = Wq
                   obtain rfl : Wa = Wq := by rw [← hWq]; exact hPa'.out.eq
                   clear hWq)
                | (refine wpList_store_mid (by rfl) 53 (.tmp 7) (.tmp 121) (by rfl) (tb + 1 + 1 + 1) 0 (rf : List Value).toArray (by rfl) (by rfl) hPb'.out.there hPb'.out.info (by simpa using hPb'.out.one) ?_
                   generalize hWq : World.setCells _ _ _ _ = Wq
                   obtain rfl : Wb = Wq := by rw [← hWq]; exact hPb'.out.eq
                   clear hWq))
              exact ret_cell_cell_tmp (fn := Tryz.f31) (p := 6) (q := 7) (u := 8) rfl hbR'.out Tryz.underlying50 rfl sizeVw hbF'.out Tryz.underlying53 rfl zi.out rfl rfl rfl rfl hend.out
           · have hz1 : Hid (((hn : Int) == 0) = false) := by show _ = _; simpa using hn0
             have hz2 : Hid (decide ((hn : Int) = 0) = false) := decide_eq_false (by omega)
             have hz3 : Hid (decide (hn = 0) = false) := decide_eq_false hn0
             have hz4 : Hid ((hn == 0) = false) := by show _ = _; simpa using hn0
             have hh2 : Hid (∀ wz, Below Wy.heap.size Wy wz → wz.cell? ⟨tb + 1, 2, none⟩ = some (.int .i64 h.no)) := fun wz hw => (hCy.out.A.bH.below hw hCy.out.A.bH.lt).at_ r2.out
             have hla := Lib.hid (fun W (hb : Below w.heap.size w W) => r32last_any ha hn hc v.hs W (H'.out.hs.below hb))
             have hL2 := Lib.hid (fun W => field_no (HS.last H'.out.hs) W)
             have hcd0 : Hid ((decide (v.hs.length = 0) || decide ((lastH v.hs).no < h.no)) = decide ((lastH v.hs).no < h.no)) := by show _ = _; rw [decide_eq_false (by omega)]; rfl
             unfold HdPost at hla
             obtain ⟨ln', hln'⟩ : ∃ q, Hid ((lastH v.hs).no = q) := ⟨_, rfl⟩
             rw [hln'.out] at hL2 hcd0
             obtain ⟨rl, hrl'⟩ : ∃ r, Hid (hdC (lastH v.hs) = r) := ⟨_, rfl⟩
             rw [hrl'.out] at hL2 hla
             clear hn0 hrl'
             by_cases hlt0 : ln' < h.no
             · have hlt : Hid (decide (ln' < h.no) = true) := decide_eq_true hlt0
               have hcond : Hid ((decide (v.hs.length = 0) || decide ((lastH v.hs).no < h.no)) = true) := by show _ = _; rw [hln'.out, hcd0.out, hlt.out]
               clear hlt0 hcd0 hln'
               refine wp_region_held_drew (S := fun wz => Below Wy.heap.size Wy wz) (by kernel_rfl) ((Below.refl _ Wy).drew) (fun hHeld => ?_)
               generalize Wy.drew = Wd at *
               refine tQ 0 rfl hHeld ?_
               refine tX 1 rfl (fun wz hSw => hv4.out wz hSw) hHeld ?_
               refine tQ 2 rfl hHeld ?_
               refine tG 3 (v := ?_) rfl (Or.inl ⟨by rfl, ?_⟩) hHeld ?_
               rotate_left
               · intro wz hSw
                 have z1 := hz1.out
                 have z2 := hz2.out
                 have z3 := hz3.out
                 have z4 := hz4.out
                 go_simp
                 all_goals (with_reducible rfl)
               try simp only [Act.put, sA, s0, s1]
               refine tQ 4 rfl hHeld ?_
               refine tQ 5 rfl hHeld ?_
               refine tX 6 rfl (fun wz hSw => hh2.out wz hSw) hHeld ?_
               refine tQ 7 rfl hHeld ?_
               refine tX 8 rfl (fun wz hSw => hv4.out wz hSw) hHeld ?_
               refine tO 9 rfl (fun K hK => ?_)
               go_simp
               go_at_call 52
               refine (hla.out _ (hCy.out.A.bel.trans (hHeld.mono hCy.out.A.bel.size))).mono ?_
               rintro e9 W10 ⟨rfl, hz⟩
               refine hK.out _ _ (hHeld.trans (hz.mono hHeld.size)) (fun hHeld2 => ?_)
               clear hz
               clear hHeld
               have hHeld := hHeld2
               clear hHeld2
               clear hK K
               try simp only [Act.put, sA, s0, s1]
               refine tX 10 rfl (fun wz hSw => hL2.out) hHeld ?_
               refine tX 11 rfl (fun wz hSw => hlt.out) hHeld ?_
               refine tQ 12 rfl hHeld ?_
               refine wpAnyH_done (by kernel_rfl) ?_ _
               have hrD : Hid (accV v es h = (⟨v.st, v.fo, v.pub, D, v.hs ++ [h]⟩, zeroF, 0)) := by show _ = _; rw [hrC.out]; unfold endH; rw [hcond.out]; rfl
               have hCz := Lib.hid (hCy.out.below hHeld)
               have hXz := Lib.hid (hXy.out.below hHeld hXy.out.lt)
               clear hHeld hCy hXy hrC hcond
               go_wp2_with fail
               have hCv := hCz.out.below ((Below.refl _ W10).drew)
               have hXv : Blk W10.drew qx 50 [.int .i64 v.st, .int .i64 v.fo, .int .i64 v.pub, .slice aD k cD, .slice ha hn hc] := hXz.out
               clear hCz hXz
               refine wp_region_held_drew (S := fun wz => AccB w tb [.int .i64 v.st, .int .i64 v.fo, .int .i64 v.pub, .slice da dn dc, .slice ha hn hc] rh zrV zrF wz ∧ (∃ a n c, Blk wz qx 50 [.int .i64 v.st, .int .i64 v.fo, .int .i64 v.pub, .slice aD k cD, .slice a n c])) (by kernel_rfl) (⟨hCv.A, ⟨_, _, _, hXv⟩⟩) (fun hHeld => ?_)
               generalize W10.drew = V0 at *
               obtain ⟨B0, hB0⟩ : ∃ B0, Hid (V0.heap.size = B0) := ⟨_, rfl⟩
               have hxB : qx < B0 := by rw [← hB0.out]; exact hXv.lt
               have hDv := Lib.hid hCv.D
               have hlv := Lib.hid hCv.lo
               have hHv := Lib.hid (H'.out.hs.below hCv.A.bel)
               have hDB : Hid (0 < k → ∀ ad, aD = some ad → ad.block ≠ qx) := hdx
               obtain ⟨VZ, hVZ⟩ : ∃ V, V = V0 := ⟨_, rfl⟩
               have bB : Below V0.heap.size V0 VZ := by rw [hVZ]; exact Below.refl _ _
               rw [← hVZ] at hHeld ⊢
               rw [hB0.out] at bB
               clear hVZ hCv hXv
               refine tQ 1 rfl hHeld ?_
               refine tX 2 rfl (fun wz hSw => hSw.1.bV.at_ (i := 4) rfl) hHeld ?_
               refine tY 4 rfl (tb + 1) 0 (rh) (fun wz h => h.1.bH.range) Tryz.underlying36 hri.out hHeld ?_
               refine share (G := ∀ (e5 : Nat) (g5 : Nat) (v1 : Value) (WZ : World), (AccB w tb [.int .i64 v.st, .int .i64 v.fo, .int .i64 v.pub, .slice da dn dc, .slice ha hn hc] rh zrV zrF WZ ∧ (∃ a n c, Blk WZ qx 50 [.int .i64 v.st, .int .i64 v.fo, .int .i64 v.pub, .slice aD k cD, .slice a n c])) → (Below B0 V0 WZ) → (OwnHd B0 WZ v1 v.hs) → (Blk WZ g5 36 rh) → (B0 ≤ g5) → (?GbS035 : Nat → Nat → Value → World → Prop) e5 g5 v1 WZ) ?hbS035 ?kbS035
               case' hbS035 => intro KS035
               case' hbS035 =>
                refine share (G := ∀ (e5 : Nat) (g5 : Nat) (WZ : World), (AccB w tb [.int .i64 v.st, .int .i64 v.fo, .int .i64 v.pub, .slice da dn dc, .slice ha hn hc] rh zrV zrF WZ ∧ (∃ a n c, Blk WZ qx 50 [.int .i64 v.st, .int .i64 v.fo, .int .i64 v.pub, .slice aD k cD, .slice a n c])) → (Below B0 V0 WZ) → (OwnHd B0 WZ (.slice (some ⟨e5, 0, none⟩) 0 0) []) → (Blk WZ g5 36 rh) → (B0 ≤ g5) → (e5 ≠ g5) → (?GbS05 : Nat → Nat → World → Prop) e5 g5 WZ) ?hbS05 ?kbS05
               case' hbS05 => intro KS05
               case' hbS05 =>
                refine share (G := ∀ (e5 : Nat) (v1 : Value) (WZ : World), (AccB w tb [.int .i64 v.st, .int .i64 v.fo, .int .i64 v.pub, .slice da dn dc, .slice ha hn hc] rh zrV zrF WZ ∧ (∃ a n c, Blk WZ qx 50 [.int .i64 v.st, .int .i64 v.fo, .int .i64 v.pub, .slice aD k cD, .slice a n c])) → (Below B0 V0 WZ) → (OwnHd B0 WZ v1 v.hs) → (?GbS03 : Nat → Value → World → Prop) e5 v1 WZ) ?hbS03 ?kbS03
               case' hbS03 => intro KS03
               case' hbS03 =>
                refine share (G := ∀ (e5 : Nat) (WZ : World), (AccB w tb [.int .i64 v.st, .int .i64 v.fo, .int .i64 v.pub, .slice da dn dc, .slice ha hn hc] rh zrV zrF WZ ∧ (∃ a n c, Blk WZ qx 50 [.int .i64 v.st, .int .i64 v.fo, .int .i64 v.pub, .slice aD k cD, .slice a n c])) → (Below B0 V0 WZ) → (OwnHd B0 WZ (.slice (some ⟨e5, 0, none⟩) 0 0) []) → (?GbS0 : Nat → World → Prop) e5 WZ) ?hbS0 ?kbS0
               case' hbS0 => intro KS0
               case' hbS0 =>
                refine share (G := ∀ (g5 : Nat) (WZ : World), (AccB w tb [.int .i64 v.st, .int .i64 v.fo, .int .i64 v.pub, .slice da dn dc, .slice ha hn hc] rh zrV zrF WZ ∧ (∃ a n c, Blk WZ qx 50 [.int .i64 v.st, .int .i64 v.fo, .int .i64 v.pub, .slice aD k cD, .slice a n c])) → (Below B0 V0 WZ) → (Blk WZ g5 36 rh) → (B0 ≤ g5) → (?GbS5 : Nat → World → Prop) g5 WZ) ?hbS5 ?kbS5
               case' hbS5 => intro KS5
               case hbS5 =>
                refine rd (rs := [0, 5]) ?_
                refine tR rfl (fun K hK => ?_) (tR rfl (fun K hK => ?_) rn)
                case refine_1 =>
                 have hX5 := hHeld.2
                 refine wp_buildSlice_run 48 0 #[] rfl #[] (by simp) (empty_heads VZ) ?_
                 refine hK.out _ _ ⟨hHeld.1.below ((Below.refl _ VZ).alloc (Nat.le_refl _) _), hX5.imp fun a h => h.imp fun n h => h.imp fun c h => h.below ((Below.refl _ VZ).alloc (Nat.le_refl _) _) h.lt⟩ (fun hHeld2 => ?_)
                 clear hK K hX5
                 try simp only [Act.put, sA, s0, s1]
                 have bB2 := bB.alloc (hB0.out ▸ bB.size) (.cells #[] 36)
                 have hE2 := OwnHd.new (B := B0) (W := VZ) (hB0.out ▸ bB.size)
                 generalize VZ.heap.size = e5 at *
                 generalize World.alloc VZ _ = W2 at *
                 exact KS0 e5 W2 (hHeld2) (bB2) (hE2)
                case refine_2 =>
                 have hX5 := hHeld.2
                 refine wp_buildSlice_run _ _ _ rfl #[(0, .agg rh.toArray)] (by simp only [List.map_toArray, List.map_cons, List.map_nil]; rfl) (hsl.out _) ?_
                 refine hK.out _ _ ⟨hHeld.1.below ((Below.refl _ VZ).alloc (Nat.le_refl _) _), hX5.imp fun a h => h.imp fun n h => h.imp fun c h => h.below ((Below.refl _ VZ).alloc (Nat.le_refl _) _) h.lt⟩ (fun hHeld2 => ?_)
                 clear hK K hX5
                 try simp only [Act.put, sA, s0, s1]
                 have bB2 := bB.alloc (hB0.out ▸ bB.size) (.cells rh.toArray 36)
                 have hG2 := Blk.new VZ 36 rh
                 have hGl2 := (hB0.out ▸ bB.size)
                 generalize VZ.heap.size = g5 at *
                 generalize World.alloc VZ _ = W2 at *
                 exact KS5 g5 W2 (hHeld2) (bB2) (hG2) (hGl2)
               case kbS0 =>
                intro e5 WZ hHeld bB hE
                refine rd (rs := [3, 5]) ?_
                refine tR rfl (fun K hK => ?_) (tR rfl (fun K hK => ?_) rn)
                case refine_1 =>
                 have hX5 := hHeld.2
                 obtain ⟨v1, W2, hr1, hO2, hgr, hlw⟩ := append_hall hE hHv.out (hB0.out ▸ bB) (by simp only [List.length_nil]; omega) (hB0.out ▸ bB.size)
                 rw [List.nil_append] at hO2
                 have hgr2 := (Below.refl B0 WZ).grown hgr (hB0.out ▸ bB.size) hlw
                 have hHeld2 : AccB w tb [.int .i64 v.st, .int .i64 v.fo, .int .i64 v.pub, .slice da dn dc, .slice ha hn hc] rh zrV zrF W2 ∧ (∃ a n c, Blk W2 qx 50 [.int .i64 v.st, .int .i64 v.fo, .int .i64 v.pub, .slice aD k cD, .slice a n c]) := ⟨hHeld.1.belowB hgr2 (by omega), hX5.imp fun a h => h.imp fun n h => h.imp fun c h => h.below hgr2 hxB⟩
                 have bB2 := bB.trans hgr2
                 refine wp_append_run rfl _ _ (by rfl) (by rfl) (hr1 _) ?_
                 refine hK.out _ _ hHeld2 (fun _ => ?_)
                 clear hK K hX5
                 try simp only [Act.put, sA, s0, s1]
                 exact KS03 e5 v1 W2 (hHeld2) (bB2) (hO2)
                case refine_2 =>
                 have hX5 := hHeld.2
                 refine wp_buildSlice_run _ _ _ rfl #[(0, .agg rh.toArray)] (by simp only [List.map_toArray, List.map_cons, List.map_nil]; rfl) (hsl.out _) ?_
                 refine hK.out _ _ ⟨hHeld.1.below ((Below.refl _ WZ).alloc (Nat.le_refl _) _), hX5.imp fun a h => h.imp fun n h => h.imp fun c h => h.below ((Below.refl _ WZ).alloc (Nat.le_refl _) _) h.lt⟩ (fun hHeld2 => ?_)
                 clear hK K hX5
                 try simp only [Act.put, sA, s0, s1]
                 have bB2 := bB.alloc (hB0.out ▸ bB.size) (.cells rh.toArray 36)
                 have hG2 := Blk.new WZ 36 rh
                 have hGl2 := (hB0.out ▸ bB.size)
                 have hE2 := hE.alloc (.cells rh.toArray 36)
                 have hN2 : e5 ≠ WZ.heap.size := by have := (World.ownsRow.lt hE.1 e5 rfl).2; omega
                 generalize WZ.heap.size = g5 at *
                 generalize World.alloc WZ _ = W2 at *
                 exact KS05 e5 g5 W2 (hHeld2) (bB2) (hE2) (hG2) (hGl2) (hN2)
               case kbS5 =>
                intro g5 WZ hHeld bB hG hGl
                refine tO 0 rfl (fun K hK => ?_)
                have hX5 := hHeld.2
                refine wp_buildSlice_run 48 0 #[] rfl #[] (by simp) (empty_heads WZ) ?_
                refine hK.out _ _ ⟨hHeld.1.below ((Below.refl _ WZ).alloc (Nat.le_refl _) _), hX5.imp fun a h => h.imp fun n h => h.imp fun c h => h.below ((Below.refl _ WZ).alloc (Nat.le_refl _) _) h.lt⟩ (fun hHeld2 => ?_)
                clear hK K hX5
                try simp only [Act.put, sA, s0, s1]
                have bB2 := bB.alloc (hB0.out ▸ bB.size) (.cells #[] 36)
                have hE2 := OwnHd.new (B := B0) (W := WZ) (hB0.out ▸ bB.size)
                have hG2 := hG.alloc (.cells #[] 36)
                have hN2 : WZ.heap.size ≠ g5 := by have := hG.lt; omega
                generalize WZ.heap.size = e5 at *
                generalize World.alloc WZ _ = W2 at *
                exact KS05 e5 g5 W2 (hHeld2) (bB2) (hE2) (hG2) (hGl) (hN2)
               case kbS05 =>
                intro e5 g5 WZ hHeld bB hE hG hGl hN
                refine tO 3 rfl (fun K hK => ?_)
                have hX5 := hHeld.2
                obtain ⟨v1, W2, hr1, hO2, hgr, hlw⟩ := append_hall hE hHv.out (hB0.out ▸ bB) (by simp only [List.length_nil]; omega) (hB0.out ▸ bB.size)
                rw [List.nil_append] at hO2
                have hgr2 := (Below.refl B0 WZ).grown hgr (hB0.out ▸ bB.size) hlw
                have hHeld2 : AccB w tb [.int .i64 v.st, .int .i64 v.fo, .int .i64 v.pub, .slice da dn dc, .slice ha hn hc] rh zrV zrF W2 ∧ (∃ a n c, Blk W2 qx 50 [.int .i64 v.st, .int .i64 v.fo, .int .i64 v.pub, .slice aD k cD, .slice a n c]) := ⟨hHeld.1.belowB hgr2 (by omega), hX5.imp fun a h => h.imp fun n h => h.imp fun c h => h.below hgr2 hxB⟩
                have bB2 := bB.trans hgr2
                have hG2 := hG.grown hgr (fun e => by injection e with e; exact hN e.symm)
                refine wp_append_run rfl _ _ (by rfl) (by rfl) (hr1 _) ?_
                refine hK.out _ _ hHeld2 (fun _ => ?_)
                clear hK K hX5
                try simp only [Act.put, sA, s0, s1]
                exact KS035 e5 g5 v1 W2 (hHeld2) (bB2) (hO2) (hG2) (hGl)
               case kbS03 =>
                intro e5 v1 WZ hHeld bB hO
                refine tO 5 rfl (fun K hK => ?_)
                have hX5 := hHeld.2
                refine wp_buildSlice_run _ _ _ rfl #[(0, .agg rh.toArray)] (by simp only [List.map_toArray, List.map_cons, List.map_nil]; rfl) (hsl.out _) ?_
                refine hK.out _ _ ⟨hHeld.1.below ((Below.refl _ WZ).alloc (Nat.le_refl _) _), hX5.imp fun a h => h.imp fun n h => h.imp fun c h => h.below ((Below.refl _ WZ).alloc (Nat.le_refl _) _) h.lt⟩ (fun hHeld2 => ?_)
                clear hK K hX5
                try simp only [Act.put, sA, s0, s1]
                have bB2 := bB.alloc (hB0.out ▸ bB.size) (.cells rh.toArray 36)
                have hG2 := Blk.new WZ 36 rh
                have hGl2 := (hB0.out ▸ bB.size)
                have hO2 := hO.alloc (.cells rh.toArray 36)
                generalize WZ.heap.size = g5 at *
                generalize World.alloc WZ _ = W2 at *
                exact KS035 e5 g5 v1 W2 (hHeld2) (bB2) (hO2) (hG2) (hGl2)
               case kbS035 =>
                intro e5 g5 v1 WZ hHeld bB hO hG hGl
                refine tO 6 rfl (fun K hK => ?_)
                have hX5 := hHeld.2
                obtain ⟨v2, W6, hr6, hO6, hgr6, hlw⟩ := append_hd (h := h) hO (by rw [hrh.out]; exact hG) ok'.out (by omega) (hB0.out ▸ bB.size)
                have hbg := (Below.refl B0 WZ).grown hgr6 (hB0.out ▸ bB.size) hlw
                have bB6 := bB.trans hbg
                refine wp_append_run rfl _ _ (by rfl) (by rfl) (hr6 _) ?_
                refine hK.out _ _ (⟨hHeld.1.belowB hbg (by omega), hX5.imp fun a h => h.imp fun n h => h.imp fun c h => h.below hbg hxB⟩) (fun hHeld2 => ?_)
                clear hHeld hK K hX5
                have hHeld := hHeld2
                clear hHeld2
                try simp only [Act.put, sA, s0, s1]
                obtain ⟨a9, c9, rfl, hH9, hlo9⟩ := hO6.hs (by rw [List.length_append, List.length_singleton]; omega)
                rw [show (v.hs ++ [h]).length = hn + 1 by rw [List.length_append, List.length_singleton, hhl.out]] at hH9 hr6 ⊢
                clear hr6 hO6 hO hG hgr6 hbg bB
                refine tQ 7 rfl hHeld ?_
                refine tO 8 rfl (fun K hK => ?_)
                obtain ⟨a3, n3, c3, hX3⟩ := hHeld.2
                have q2 := hX3.at_ (i := 4) (x := .slice a3 n3 c3) rfl
                have f2 := hX3.frozen 4
                show Oper.wp _ _ _ _ K _
                go_simp
                have hset : Blk (W6.setCell ⟨qx, 4, none⟩ (.slice a9 (hn + 1) c9)) qx 50 [.int .i64 v.st, .int .i64 v.fo, .int .i64 v.pub, .slice aD k cD, .slice a9 (hn + 1) c9] := hX3.set 4 (.slice a9 (hn + 1) c9)
                have hgs2 : W6.grownBy (W6.setCell ⟨qx, 4, none⟩ (.slice a9 (hn + 1) c9)) (some qx) := grown_set (World.grownBy.refl W6 _) (.inl rfl) _
                have hA9 := hHeld.1.far hgs2 hnx
                have hDz := Lib.hid ((hDv.out.below (hB0.out ▸ bB6)).grown hgs2 hDB.out)
                have hH9' := Lib.hid (hH9.grown hgs2 (fun _ ad e e2 => by have := hlo9 ad e; omega))
                refine hK.out _ _ (⟨hA9, ⟨_, _, _, hset⟩⟩ : AccB w tb [.int .i64 v.st, .int .i64 v.fo, .int .i64 v.pub, .slice da dn dc, .slice ha hn hc] rh zrV zrF (W6.setCell ⟨qx, 4, none⟩ (.slice a9 (hn + 1) c9)) ∧ (∃ a n c, Blk (W6.setCell ⟨qx, 4, none⟩ (.slice a9 (hn + 1) c9)) qx 50 [.int .i64 v.st, .int .i64 v.fo, .int .i64 v.pub, .slice aD k cD, .slice a n c])) (fun _ => ?_)
                clear hHeld hK K hH9 q2 f2 hgs2 hX3
                try simp only [Act.put, sA, s0, s1]
                refine wpAnyH_done (by kernel_rfl) ?_ _
                generalize W6.setCell ⟨qx, 4, none⟩ (.slice a9 (hn + 1) c9) = V5 at *
                have hXz := Lib.hid hset
                have hlz := hlv
                have hHz : Hid (∀ Wa Wb, PutR 50 V5 Wa (tb + 1 + 1) 50 [.int .i64 v.st, .int .i64 v.fo, .int .i64 v.pub, .slice aD k cD, .slice a9 (hn + 1) c9] → PutR 53 Wa Wb (tb + 1 + 1 + 1) 53 zrF → Below w.heap.size w Wb → HS Wb a9 (hn + 1) c9 (v.hs ++ [h])) := fun Wa Wb h1 h2 _ => h2.hs (h1.hs hH9'.out (fun ad e => by have := hlo9 ad e; omega)) (fun ad e => by have := hlo9 ad e; omega)
                obtain ⟨Wa, Wb, hPa, hPb, hbR, hbF, hbl, hvA, hhA, hvB, hhB⟩ := acc_fin hA9 (rR := [.int .i64 v.st, .int .i64 v.fo, .int .i64 v.pub, .slice aD k cD, .slice a9 (hn + 1) c9]) (rF := zrF) rfl (view_one _ _ _ _ _ _ _ _ _) rfl zone.out
                have hPa' := Lib.hid hPa; have hPb' := Lib.hid hPb; have hbR' := Lib.hid hbR; have hbF' := Lib.hid hbF
                have hend : Hid (X (.returned (.tuple #[.agg ([.int .i64 v.st, .int .i64 v.fo, .int .i64 v.pub, .slice aD k cD, .slice a9 (hn + 1) c9] : List Value).toArray, .agg (zrF).toArray, .int .i64 0])) Wb) := hX.out (⟨v.st, v.fo, v.pub, D, v.hs ++ [h]⟩, zeroF, 0) aD k cD a9 (hn + 1) c9 none 0 0 Wb hrD.out ⟨H'.out.st, H'.out.fo, H'.out.pub, hPb.ds (hPa.ds hDz.out (fun ad e => by have := hlz.out ad e; omega)) (fun ad e => by have := hlz.out ad e; omega), hHz.out Wa Wb hPa hPb hbl, hlb⟩ okF0 (ds_nil Wb) (by omega) hbl
                have x0 := hXz.out.at_ (i := 0) rfl
                have x1 := hXz.out.at_ (i := 1) rfl
                have x2 := hXz.out.at_ (i := 2) rfl
                have x3 := hXz.out.at_ (i := 3) rfl
                have x4 := hXz.out.at_ (i := 4) rfl
                clear hPa hPb hbR hbF hbl hvA hhA hvB hhB
                generalize zrF = rf at *
                go_wp2_with (first
                 | (refine wpList_build_run (by rfl) 53 _ rfl #[] (by simp) (hbf.out _) ?_)
                  | (refine wpList_store_mid (by rfl) 50 (.tmp 6) (.tmp 120) (by rfl) (tb + 1 + 1) 0 ([.int .i64 v.st, .int .i64 v.fo, .int .i64 v.pub, .slice aD k cD, .slice a9 (hn + 1) c9] : List Value).toArray (by rfl) (by rfl) hPa'.out.there hPa'.out.info (by simpa using hPa'.out.one) ?_
                     generalize hWq : World.setCells _ _ _ _ = Wq
                     obtain rfl : Wa = Wq := by rw [← hWq]; exact hPa'.out.eq
                     clear hWq)
                  | (refine wpList_store_mid (by rfl) 53 (.tmp 7) (.tmp 121) (by rfl) (tb + 1 + 1 + 1) 0 (rf : List Value).toArray (by rfl) (by rfl) hPb'.out.there hPb'.out.info (by simpa using hPb'.out.one) ?_
                     generalize hWq : World.setCells _ _ _ _ = Wq
                     obtain rfl : Wb = Wq := by rw [← hWq]; exact hPb'.out.eq
                     clear hWq))
                exact ret_cell_cell_tmp (fn := Tryz.f31) (p := 6) (q := 7) (u := 8) rfl hbR'.out Tryz.underlying50 rfl sizeVw hbF'.out Tryz.underlying53 rfl zi.out rfl rfl rfl rfl hend.out
             · have hlt : Hid (decide (ln' < h.no) = false) := decide_eq_false hlt0
               have hcond : Hid ((decide (v.hs.length = 0) || decide ((lastH v.hs).no < h.no)) = false) := by show _ = _; rw [hln'.out, hcd0.out, hlt.out]
               clear hlt0 hcd0 hln'
               refine wp_region_held_drew (S := fun wz => Below Wy.heap.size Wy wz) (by kernel_rfl) ((Below.refl _ Wy).drew) (fun hHeld => ?_)
               generalize Wy.drew = Wd at *
               refine tQ 0 rfl hHeld ?_
               refine tX 1 rfl (fun wz hSw => hv4.out wz hSw) hHeld ?_
               refine tQ 2 rfl hHeld ?_
               refine tG 3 (v := ?_) rfl (Or.inl ⟨by rfl, ?_⟩) hHeld ?_
               rotate_left
               · intro wz hSw
                 have z1 := hz1.out
                 have z2 := hz2.out
                 have z3 := hz3.out
                 have z4 := hz4.out
                 go_simp
                 all_goals (with_reducible rfl)
               try simp only [Act.put, sA, s0, s1]
               refine tQ 4 rfl hHeld ?_
               refine tQ 5 rfl hHeld ?_
               refine tX 6 rfl (fun wz hSw => hh2.out wz hSw) hHeld ?_
               refine tQ 7 rfl hHeld ?_
               refine tX 8 rfl (fun wz hSw => hv4.out wz hSw) hHeld ?_
               refine tO 9 rfl (fun K hK => ?_)
               go_simp
               go_at_call 52
               refine (hla.out _ (hCy.out.A.bel.trans (hHeld.mono hCy.out.A.bel.size))).mono ?_
               rintro e9 W10 ⟨rfl, hz⟩
               refine hK.out _ _ (hHeld.trans (hz.mono hHeld.size)) (fun hHeld2 => ?_)
               clear hz
               clear hHeld
               have hHeld := hHeld2
               clear hHeld2
               clear hK K
               try simp only [Act.put, sA, s0, s1]
               refine tX 10 rfl (fun wz hSw => hL2.out) hHeld ?_
               refine tX 11 rfl (fun wz hSw => hlt.out) hHeld ?_
               refine tQ 12 rfl hHeld ?_
               refine wpAnyH_done (by kernel_rfl) ?_ _
               have hCz := Lib.hid (hCy.out.below hHeld)
               have hXz := Lib.hid (hXy.out.below hHeld hXy.out.lt)
               have hDz := Lib.hid hCz.out.D
               have hlz := Lib.hid hCz.out.lo
               have hrD : Hid (accV v es h = (⟨v.st, v.fo, v.pub, D, v.hs⟩, zeroF, 0)) := by show _ = _; rw [hrC.out]; unfold endH; rw [hcond.out]; rfl
               have hHz : Hid (∀ Wa Wb, PutR 50 W10 Wa (tb + 1 + 1) 50 [.int .i64 v.st, .int .i64 v.fo, .int .i64 v.pub, .slice aD k cD, .slice ha hn hc] → PutR 53 Wa Wb (tb + 1 + 1 + 1) 53 zrF → Below w.heap.size w Wb → HS Wb ha hn hc v.hs) := fun _ _ _ _ hb => H'.out.hs.below hb
               clear hHeld hCy hXy hrC
               obtain ⟨Wa, Wb, hPa, hPb, hbR, hbF, hbl, hvA, hhA, hvB, hhB⟩ := acc_fin hCz.out.A (rR := [.int .i64 v.st, .int .i64 v.fo, .int .i64 v.pub, .slice aD k cD, .slice ha hn hc]) (rF := zrF) rfl (view_one _ _ _ _ _ _ _ _ _) rfl zone.out
               have hPa' := Lib.hid hPa; have hPb' := Lib.hid hPb; have hbR' := Lib.hid hbR; have hbF' := Lib.hid hbF
               have hend : Hid (X (.returned (.tuple #[.agg ([.int .i64 v.st, .int .i64 v.fo, .int .i64 v.pub, .slice aD k cD, .slice ha hn hc] : List Value).toArray, .agg (zrF).toArray, .int .i64 0])) Wb) := hX.out (⟨v.st, v.fo, v.pub, D, v.hs⟩, zeroF, 0) aD k cD ha hn hc none 0 0 Wb hrD.out ⟨H'.out.st, H'.out.fo, H'.out.pub, hPb.ds (hPa.ds hDz.out (fun ad e => by have := hlz.out ad e; omega)) (fun ad e => by have := hlz.out ad e; omega), hHz.out Wa Wb hPa hPb hbl, hlb⟩ okF0 (ds_nil Wb) (by omega) hbl
               have x0 := hXz.out.at_ (i := 0) rfl
               have x1 := hXz.out.at_ (i := 1) rfl
               have x2 := hXz.out.at_ (i := 2) rfl
               have x3 := hXz.out.at_ (i := 3) rfl
               have x4 := hXz.out.at_ (i := 4) rfl
               clear hPa hPb hbR hbF hbl hvA hhA hvB hhB
               generalize zrF = rf at *
               go_wp2_with (first
                | (refine wpList_build_run (by rfl) 53 _ rfl #[] (by simp) (hbf.out _) ?_)
                 | (refine wpList_store_mid (by rfl) 50 (.tmp 6) (.tmp 120) (by rfl) (tb + 1 + 1) 0 ([.int .i64 v.st, .int .i64 v.fo, .int .i64 v.pub, .slice aD k cD, .slice ha hn hc] : List Value).toArray (by rfl) (by rfl) hPa'.out.there hPa'.out.info (by simpa using hPa'.out.one) ?_
                    generalize hWq : World.setCells _ _ _ _ = Wq
                    obtain rfl : Wa = Wq := by rw [← hWq]; exact hPa'.out.eq
                    clear hWq)
                 | (refine wpList_store_mid (by rfl) 53 (.tmp 7) (.tmp 121) (by rfl) (tb + 1 + 1 + 1) 0 (rf : List Value).toArray (by rfl) (by rfl) hPb'.out.there hPb'.out.info (by simpa using hPb'.out.one) ?_
                    generalize hWq : World.setCells _ _ _ _ = Wq
                    obtain rfl : Wb = Wq := by rw [← hWq]; exact hPb'.out.eq
                    clear hWq))
               exact ret_cell_cell_tmp (fn := Tryz.f31) (p := 6) (q := 7) (u := 8) rfl hbR'.out Tryz.underlying50 rfl sizeVw hbF'.out Tryz.underlying53 rfl zi.out rfl rfl rfl rfl hend.out
        · have q1 : decide ((dn : Int) ≤ (k : Int)) = false := decide_eq_false (by omega)
          have q2 : decide (dn ≤ k) = false := decide_eq_false hle
          have hrB : Hid (accV v es h = if fitsB h v.ds = true then (⟨v.st, v.fo, v.pub, v.ds, insR h false v.hs⟩, zeroF, 0) else (v, ⟨h, lastH v.hs, v.ds⟩, 321)) := by
           show _ = _
           rw [hrA.out]
           unfold refAcc
           rw [if_neg (by rw [hdl.out, hDl.out]; exact hle)]
          clear hrA hle
          go_upto_region 21 with fail
          clear b3 q1 q2
          have hfv := Lib.hid (fun W (hb : Below w.heap.size w W) => r32fits_any h ok'.out da dn dc v.ds W (H'.out.ds.below hb) H'.out.bd)
          obtain ⟨fb, hfb0⟩ : ∃ q, Hid (fitsB h v.ds = q) := ⟨_, rfl⟩
          rw [hfb0.out] at hfv hrB
          rw [hrh.out] at hfv
          clear hfb0
          have b3 := hC.out.A.bV.at_ (i := 3) rfl
          have hgr := Lib.hid hC.out.A.bH.range
          go_wp2_with (first
           | (refine wpList_load_mid (by rfl) 36 (.tmp 5) (by rfl) (tb + 1) 0 (by rfl) rh _ hgr.out Tryz.underlying36 (by rfl) hri.out ?_))
          refine (hfv.out W7 hC.out.A.bel).mono ?_
          rintro e W8 ⟨rfl, hz⟩
          replace hC := Lib.hid (hC.out.below hz)
          clear hz hfv hgr b3
          cases fb with
          | false =>
           have hrC : Hid (accV v es h = (v, ⟨h, lastH v.hs, v.ds⟩, 321)) := by show _ = _; rw [hrB.out, if_neg (by simp)]
           clear hrB
           have okf : Hid (OkF ⟨h, lastH v.hs, v.ds⟩) := ⟨ok'.out, HS.last H'.out.hs⟩
           have hfb := Lib.hid (fun W => fork_build ok'.out (HS.last H'.out.hs) v.ds da dn dc W)
           have hfl := Lib.hid (forkC_len okf.out da dn dc)
           have hfo := Lib.hid (forkC_one okf.out da dn dc)
           have fi := infoF okf.out da dn dc
           have hla := Lib.hid (fun W (hb : Below w.heap.size w W) => r32last_any ha hn hc v.hs W (H'.out.hs.below hb))
           unfold HdPost at hla
           obtain ⟨rl, hrl'⟩ : ∃ r, Hid (hdC (lastH v.hs) = r) := ⟨_, rfl⟩
           rw [hrl'.out, hrh.out] at hfb
           rw [hrl'.out] at hla
           obtain ⟨rf, hrf⟩ : ∃ r, Hid (forkC ⟨h, lastH v.hs, v.ds⟩ da dn dc = r) := ⟨_, rfl⟩
           rw [hrf.out] at hfb hfl hfo fi
           clear hrl'
           go_wp2_with fail
           have hAd := hC.out.A.below ((Below.refl _ W8).drew)
           clear hC
           refine wp_region_held_drew (S := fun wz => Blk wz tb 50 [.int .i64 v.st, .int .i64 v.fo, .int .i64 v.pub, .slice da dn dc, .slice ha hn hc] ∧ Blk wz (tb + 1) 36 rh ∧ Below w.heap.size w wz) (by kernel_rfl) (⟨hAd.bV, hAd.bH, hAd.bel⟩) (fun hHeld => ?_)
           generalize W8.drew = Wd at *
           refine tG 0 (v := ?_) rfl (Or.inl ⟨by rfl, ?_⟩) hHeld ?_
           rotate_left
           · intro wz hSw
             have q0 := hSw.1.at_ (i := 0) rfl
             have q1 := hSw.1.at_ (i := 1) rfl
             have q2 := hSw.1.at_ (i := 2) rfl
             have q3 := hSw.1.at_ (i := 3) rfl
             have q4 := hSw.1.at_ (i := 4) rfl
             go_simp
             all_goals (with_reducible rfl)
           try simp only [Act.put, sA, s0, s1]
           refine tY 1 rfl (tb + 1) 0 (rh) (fun wz h => h.2.1.range) Tryz.underlying36 hri.out hHeld ?_
           refine tQ 2 rfl hHeld ?_
           refine tX 3 rfl (fun wz hSw => hSw.1.at_ (i := 4) rfl) hHeld ?_
           refine tQ 5 rfl hHeld ?_
           refine tX 6 rfl (fun wz hSw => hSw.1.at_ (i := 3) rfl) hHeld ?_
           refine tO 4 rfl (fun K hK => ?_)
           go_simp
           go_at_call 52
           refine (hla.out _ hHeld.2.2).mono ?_
           rintro e9 W9 ⟨rfl, hz⟩
           replace hAd := hAd.below hz
           refine hK.out _ _ ⟨hAd.bV, hAd.bH, hAd.bel⟩ (fun hHeld2 => ?_)
           clear hz
           clear hHeld
           have hHeld := hHeld2
           clear hHeld2
           clear hK K
           try simp only [Act.put, sA, s0, s1]
           refine tU 7 rfl #[(0, .agg rh.toArray), (1, .agg rl.toArray), (2, .slice da dn dc)] hfb.out hHeld ?_
           obtain ⟨Wa, Wb, hPa, hPb, hbR, hbF, hbl, hvA, hhA, hvB, hhB⟩ := acc_fin hAd (rR := [.int .i64 v.st, .int .i64 v.fo, .int .i64 v.pub, .slice da dn dc, .slice ha hn hc]) (rF := rf) rfl (view_one _ _ _ _ _ _ _ _ _) hfl.out hfo.out
           have hPa' := Lib.hid hPa; have hPb' := Lib.hid hPb; have hbR' := Lib.hid hbR; have hbF' := Lib.hid hbF
           have hend : Hid (X (.returned (.tuple #[.agg ([.int .i64 v.st, .int .i64 v.fo, .int .i64 v.pub, .slice da dn dc, .slice ha hn hc] : List Value).toArray, .agg rf.toArray, .int .i64 321])) Wb) := by
            rw [← hrf.out]
            exact hX.out (v, ⟨h, lastH v.hs, v.ds⟩, 321) _ _ _ _ _ _ _ _ _ Wb hrC.out (H'.out.below hbl) okf.out (H'.out.ds.below hbl) H'.out.bd hbl
           have hba := below_grown hAd.bel hPa.grown hAd.bel.size (by have := hAd.lo; omega)
           clear hPa hPb
           refine tO 8 rfl (fun K hK => ?_)
           refine wp_store_mid 50 _ _ rfl (tb + 1 + 1) 0 ([.int .i64 v.st, .int .i64 v.fo, .int .i64 v.pub, .slice da dn dc, .slice ha hn hc] : List Value).toArray (by rfl) (by rfl) hPa'.out.there hPa'.out.info (by simpa using hPa'.out.one) ?_
           generalize hWq : World.setCells _ _ _ _ = Wq
           obtain rfl : Wa = Wq := by rw [← hWq]; exact hPa'.out.eq
           clear hWq
           refine hK.out _ _ ⟨hvA, hhA, hba⟩ (fun hHeld2 => ?_)
           clear hHeld
           have hHeld := hHeld2
           clear hHeld2
           clear hK K
           try simp only [Act.put]
           refine tO 9 rfl (fun K hK => ?_)
           refine wp_store_mid 53 _ _ rfl (tb + 1 + 1 + 1) 0 (rf : List Value).toArray (by rfl) (by rfl) hPb'.out.there hPb'.out.info (by simpa using hPb'.out.one) ?_
           generalize hWq : World.setCells _ _ _ _ = Wq
           obtain rfl : Wb = Wq := by rw [← hWq]; exact hPb'.out.eq
           clear hWq
           refine hK.out _ _ ⟨hvB, hhB, hbl⟩ (fun hHeld2 => ?_)
           clear hHeld
           have hHeld := hHeld2
           clear hHeld2
           clear hK K
           try simp only [Act.put]
           refine tQ 10 rfl hHeld ?_
           refine wpAnyH_done (by kernel_rfl) ?_ _
           clear hHeld
           go_wp2_with fail
           exact ret_cell_cell_tmp (fn := Tryz.f31) (p := 6) (q := 7) (u := 8) rfl hbR'.out Tryz.underlying50 rfl sizeVw hbF'.out Tryz.underlying53 rfl fi.out rfl rfl rfl rfl hend.out
          | true =>
           have hrC : Hid (accV v es h = (⟨v.st, v.fo, v.pub, v.ds, insR h false v.hs⟩, zeroF, 0)) := by show _ = _; rw [hrB.out, if_pos rfl]
           clear hrB
           have b0 := hC.out.A.bV.at_ (i := 0) rfl
           have b1 := hC.out.A.bV.at_ (i := 1) rfl
           have b2 := hC.out.A.bV.at_ (i := 2) rfl
           have b3 := hC.out.A.bV.at_ (i := 3) rfl
           have b4 := hC.out.A.bV.at_ (i := 4) rfl
           obtain ⟨qx, hqx⟩ : ∃ q, Hid (W8.heap.size = q) := ⟨_, rfl⟩
           obtain ⟨Wx, hQ⟩ := put_row (ty := 50) (Blk.new W8 50 zrV) (x := [.int .i64 v.st, .int .i64 v.fo, .int .i64 v.pub, .slice da dn dc, .slice ha hn hc]) rfl sizeVw (view_one _ _ _ _ _ _ _ _ _)
           have hCx := Lib.hid (hC.out.below (below_grown ((Below.refl _ W8).alloc (Nat.le_refl _) _) hQ.grown (by simp) (Nat.le_refl _)))
           have hXx : Hid (Blk Wx qx 50 [.int .i64 v.st, .int .i64 v.fo, .int .i64 v.pub, .slice da dn dc, .slice ha hn hc]) := by rw [← hqx.out]; exact hQ.blk
           have hnx : tb + 1 + 1 + 1 < qx := by rw [← hqx.out]; exact hC.out.A.bF.lt
           have hdx : Hid (0 < k → ∀ ad, aD = some ad → ad.block ≠ qx) := fun hp ad e => by have := hC.out.D.at_lt hp ad e; have := hqx.out; omega
           have hQ' := Lib.hid hQ
           rw [hqx.out] at hQ'
           clear hQ hC
           go_upto_region 24 with (first
            | (rw [hqx.out]
               refine wpList_store_mid (by rfl) 50 (.tmp 16) (.tmp 135) (by rfl) qx 0 ([.int .i64 v.st, .int .i64 v.fo, .int .i64 v.pub, .slice da dn dc, .slice ha hn hc] : List Value).toArray (by rfl) (by rfl) hQ'.out.there hQ'.out.info (by simpa using hQ'.out.one) ?_
               generalize hWq : World.setCells _ _ _ _ = Wq
               obtain rfl : Wx = Wq := by rw [← hWq]; exact hQ'.out.eq
               clear hWq))
           try simp only [Act.put]
           clear hQ' hqx b0 b1 b2 b3 b4
           have x3 := hXx.out.at_ (i := 4) rfl
           have f3 := hXx.out.frozen 4
           go_upto_region 25 with fail
           clear x3 f3
           generalize hWy : Wx.setCell ⟨qx, 4, none⟩ _ = Wy
           have hgs : Wx.grownBy Wy (some qx) := by rw [← hWy]; exact grown_set (World.grownBy.refl Wx _) (.inl rfl) _
           have hXy : Hid (Blk Wy qx 50 [.int .i64 v.st, .int .i64 v.fo, .int .i64 v.pub, .slice da dn dc, .slice none 0 0]) := by rw [← hWy]; exact hXx.out.set 4 _

           have hAy : Hid (AccB w tb [.int .i64 v.st, .int .i64 v.fo, .int .i64 v.pub, .slice da dn dc, .slice ha hn hc] rh zrV zrF Wy) := hCx.out.A.far hgs hnx
           clear hCx hXx hgs hWy hdx
           have hsl := Lib.hid (fun W => hd_slice1 ok'.out W)
           rw [hrh.out] at hsl
           obtain ⟨B0, hB0⟩ : ∃ B, Hid (Wy.heap.size = B) := ⟨_, rfl⟩
           have hqB : qx < B0 := by rw [← hB0.out]; exact hXy.lt
           have hBy : B0 ≤ Wy.heap.size := Nat.le_of_eq hB0.out.symm
           have hXy' := Lib.hid hXy
           clear hXy
           obtain ⟨RES, hRES⟩ : ∃ r, Hid (insR h false v.hs = r) := ⟨_, rfl⟩
           rw [hRES.out] at hrC
           go_wp2_with fail
           go_loopw [17, 18] (fun pv i wr => ∃ (j : Nat) (p : Bool) (l : List Hd) (sv : Value), j ≤ hn ∧ pv = .bool p ∧ i = .int .i64 (j : Int) ∧ Hid (AccB w tb [.int .i64 v.st, .int .i64 v.fo, .int .i64 v.pub, .slice da dn dc, .slice ha hn hc] rh zrV zrF wr) ∧ Hid (Blk wr qx 50 [.int .i64 v.st, .int .i64 v.fo, .int .i64 v.pub, .slice da dn dc, sv]) ∧ Hid (OwnHd B0 wr sv l) ∧ B0 ≤ wr.heap.size ∧ (p = false → l.length ≤ j) ∧ l.length ≤ j + 1 ∧ Hid (l ++ insR h p (v.hs.drop j) = RES)) (fun _ i _ => hn - (intOf i).toNat)
           case atStart => exact ⟨0, false, [], .slice none 0 0, Nat.zero_le _, rfl, rfl, hAy, hXy', OwnHd.nil0 _ _, hBy, fun _ => Nat.le_refl _, Nat.zero_le _, hRES⟩
           case round =>
            clear hAy hXy' hBy
            obtain ⟨j, p, l, sv, hj, rfl, rfl, hA, hXq, hO, hBq, hl0, hl1, hI⟩ := hrel
            generalize wr = wq at *
            have b4 := hA.out.bV.at_ (i := 4) rfl
            by_cases hlt : j < hn
            · obtain ⟨x, hx⟩ : ∃ x, v.hs[j]? = some x := ⟨_, List.getElem?_eq_getElem (by have := hhl.out; omega)⟩
              obtain ⟨b, off, hab0, hbl, okx0, hrg0⟩ := H'.out.hs.get hx
              have hab := Lib.hid hab0
              have okx := Lib.hid okx0
              have hI' := hI.out
              rw [List.drop_eq_getElem_cons (by have := hhl.out; omega), (List.getElem?_eq_some_iff.1 hx).2] at hI'
              have hrx : Hid (∀ W, Below w.heap.size w W → W.rangeAt b (off + j * 37) (hdC x)) := fun W hb q u hu => (hb.cell (p := ⟨b, _, none⟩) hbl).trans (hrg0 q u hu)
              have hxn : Hid (∀ W, Below w.heap.size w W → W.cell? ⟨b, off + j * 37 + 2, none⟩ = some (.int .i64 x.no)) := fun W hb => hrx.out W hb 2 _ (hdC_2 x)
              have hix := infoHd okx0
              have hsx := Lib.hid (fun W => hd_slice1 okx0 W)
              obtain ⟨rx, hrxe⟩ : ∃ r, Hid (hdC x = r) := ⟨_, rfl⟩
              rw [hrxe.out] at hrx hix hsx
              have j0 : (0 : Int) ≤ (j : Int) := by omega
              have j1 : (j : Int) < (hn : Int) := by omega
              clear hx hab0 okx0 hrg0 hbl hI
              go_wp2_with fail
              clear b4
              have hAd := hA.out.below ((Below.refl _ wq).drew)
              have hXd : Blk wq.drew qx 50 [.int .i64 v.st, .int .i64 v.fo, .int .i64 v.pub, .slice da dn dc, sv] := hXq.out
              have hOd : OwnHd B0 wq.drew (sv) l := hO.out.below ((Below.refl _ wq).drew)
              have hBd : B0 ≤ wq.drew.heap.size := hBq
              clear hA hXq hO hBq
              cases p with
              | true =>
               have hI2 : Hid ((l ++ [x]) ++ insR h true (v.hs.drop (j + 1)) = RES) := by show _ = _; rw [← hI', insR, List.append_assoc]; rfl
               clear hI' hl0
               refine wp_region_held_drew (S := fun wz => AccB w tb [.int .i64 v.st, .int .i64 v.fo, .int .i64 v.pub, .slice da dn dc, .slice ha hn hc] rh zrV zrF wz) (by kernel_rfl) (hAd) (fun hHeld => ?_)
               generalize wq.drew = Wd at *
               refine tQ 0 rfl hHeld ?_
               refine tQ 1 rfl hHeld ?_
               refine tQ 2 rfl hHeld ?_
               refine tS 3 rfl hHeld ?_
               refine tS 4 rfl hHeld ?_
               refine tS 5 rfl hHeld ?_
               refine tS 6 rfl hHeld ?_
               refine tS 7 rfl hHeld ?_
               refine tS 8 rfl hHeld ?_
               refine tS 9 rfl hHeld ?_
               refine tS 10 rfl hHeld ?_
               refine tS 11 rfl hHeld ?_
               refine tQ 12 rfl hHeld ?_
               refine wpAnyH_done (by kernel_rfl) ?_ _
               clear hHeld
               have hAs := Lib.hid hAd; have hXs := Lib.hid hXd; have hOs := Lib.hid hOd
               clear hAd hXd hOd
               go_wp2_with fail
               have hAd := hAs.out.below ((Below.refl _ Wd).drew)
               have hXd : Blk Wd.drew qx 50 [.int .i64 v.st, .int .i64 v.fo, .int .i64 v.pub, .slice da dn dc, sv] := hXs.out
               have hOd : OwnHd B0 Wd.drew (sv) (l) := hOs.out.below ((Below.refl _ Wd).drew)
               have hBd : B0 ≤ Wd.drew.heap.size := hBd
               clear hAs hXs hOs
               refine wp_region_held_drew (S := fun wz => AccB w tb [.int .i64 v.st, .int .i64 v.fo, .int .i64 v.pub, .slice da dn dc, .slice ha hn hc] rh zrV zrF wz) (by kernel_rfl) (hAd) (fun hHeld => ?_)
               generalize Wd.drew = Wt at *
               refine tQ 0 rfl hHeld ?_
               refine tQ 2 rfl hHeld ?_
               refine tG 3 (v := ?_) rfl (Or.inl ⟨by rfl, ?_⟩) hHeld ?_
               rotate_left
               · intro wz hSw
                 have q4 : wz.cell? ⟨tb, 4, none⟩ = some (.slice (some ⟨b, off, none⟩) hn hc) := by rw [← hab.out]; exact hSw.bV.at_ (i := 4) rfl
                 go_simp
                 all_goals (with_reducible rfl)
               try simp only [Act.put, sA, s0, s1]
               refine tQ 4 rfl hHeld ?_
               refine tQ 5 rfl hHeld ?_
               refine tY 6 rfl b (off + j * 37) (rx) (fun wz h => hrx.out wz h.bel) Tryz.underlying36 hix.out hHeld ?_
               refine share (G := ∀ (g5 : Nat) (WZ : World), (AccB w tb [.int .i64 v.st, .int .i64 v.fo, .int .i64 v.pub, .slice da dn dc, .slice ha hn hc] rh zrV zrF WZ) → (Blk WZ qx 50 [.int .i64 v.st, .int .i64 v.fo, .int .i64 v.pub, .slice da dn dc, sv]) → (OwnHd B0 WZ (sv) (l)) → (B0 ≤ WZ.heap.size) → (Blk WZ g5 36 rx) → (?Gm : Nat → World → Prop) g5 WZ) ?hm ?km
               case hm =>
                intro key
                refine rd (rs := [1, 7]) ?_
                refine tR rfl (fun K hK => ?_) (tR rfl (fun K hK => ?_) rn)
                case refine_1 =>
                 have q4 := hXd.at_ (i := 4) (x := sv) rfl
                 show Oper.wp _ _ _ _ K _
                 go_simp
                 refine hK.out _ _ hHeld (fun _ => ?_)
                 clear hK K q4
                 try simp only [Act.put, sA, s0, s1]
                 refine tO 7 rfl (fun K hK => ?_)
                 refine wp_buildSlice_run _ _ _ rfl #[(0, .agg rx.toArray)] (by simp only [List.map_toArray, List.map_cons, List.map_nil]; rfl) (hsx.out _) ?_
                 have hHeld2 := hHeld.below ((Below.refl _ Wt).alloc (Nat.le_refl _) (.cells rx.toArray 36))
                 refine hK.out _ _ hHeld2 (fun _ => ?_)
                 clear hK K
                 try simp only [Act.put, sA, s0, s1]
                 have hX2 := hXd.alloc (.cells rx.toArray 36)
                 have hO2 := hOd.alloc (.cells rx.toArray 36)
                 have hB2 : B0 ≤ (Wt.alloc (.cells rx.toArray 36)).heap.size := by rw [World.size_alloc]; omega
                 have hG := Blk.new Wt 36 rx
                 obtain ⟨g5, hg5⟩ : ∃ g, Wt.heap.size = g := ⟨_, rfl⟩
                 rw [hg5] at hG ⊢
                 obtain ⟨W2, hW2⟩ : ∃ W2, Wt.alloc (.cells rx.toArray 36) = W2 := ⟨_, rfl⟩
                 rw [hW2] at hHeld2 hX2 hO2 hB2 hG ⊢
                 exact key g5 W2 hHeld2 hX2 hO2 hB2 hG
                case refine_2 =>
                 refine wp_buildSlice_run _ _ _ rfl #[(0, .agg rx.toArray)] (by simp only [List.map_toArray, List.map_cons, List.map_nil]; rfl) (hsx.out _) ?_
                 have hHeld2 := hHeld.below ((Below.refl _ Wt).alloc (Nat.le_refl _) (.cells rx.toArray 36))
                 refine hK.out _ _ hHeld2 (fun _ => ?_)
                 clear hK K
                 try simp only [Act.put, sA, s0, s1]
                 have hX2 := hXd.alloc (.cells rx.toArray 36)
                 have hO2 := hOd.alloc (.cells rx.toArray 36)
                 have hB2 : B0 ≤ (Wt.alloc (.cells rx.toArray 36)).heap.size := by rw [World.size_alloc]; omega
                 have hG := Blk.new Wt 36 rx
                 obtain ⟨g5, hg5⟩ : ∃ g, Wt.heap.size = g := ⟨_, rfl⟩
                 rw [hg5] at hG ⊢
                 obtain ⟨W2, hW2⟩ : ∃ W2, Wt.alloc (.cells rx.toArray 36) = W2 := ⟨_, rfl⟩
                 rw [hW2] at hHeld2 hX2 hO2 hB2 hG ⊢
                 refine tO 1 rfl (fun K hK => ?_)
                 have q4 := hX2.at_ (i := 4) (x := sv) rfl
                 show Oper.wp _ _ _ _ K _
                 go_simp
                 refine hK.out _ _ hHeld2 (fun _ => ?_)
                 clear hK K q4
                 try simp only [Act.put, sA, s0, s1]
                 exact key g5 W2 hHeld2 hX2 hO2 hB2 hG
               case km =>
                intro g5 WZ hHeld hXd hOd hBd hG
                refine tO 8 rfl (fun K hK => ?_)
                obtain ⟨v2, W6, hr6, hO6, hgr6, hlw⟩ := append_hd (h := x) hOd (by rw [hrxe.out]; exact hG) okx.out (by omega) hBd
                obtain ⟨n2, hn2⟩ : ∃ n, ((l) ++ [x]).length = n := ⟨_, rfl⟩
                obtain ⟨a2, c2, rfl, _, _⟩ := hO6.hs (by rw [List.length_append, List.length_singleton]; omega)
                rw [hn2] at hr6 hO6
                clear hn2
                have hbg := (Below.refl B0 WZ).grown hgr6 hBd hlw
                have hX6 := hXd.below hbg hqB
                have hA6 := hHeld.belowB hbg (by omega)
                have hB6 : B0 ≤ W6.heap.size := Nat.le_trans hBd hbg.size
                refine wp_append_run rfl _ _ (by rfl) (by rfl) (hr6 _) ?_
                refine hK.out _ _ hA6 (fun hHeld2 => ?_)
                clear hHeld hK K hA6
                have hHeld := hHeld2
                clear hHeld2
                try simp only [Act.put, sA, s0, s1]
                clear hr6 hOd hG hgr6 hbg hXd hBd
                refine tQ 9 rfl hHeld ?_
                refine tO 10 rfl (fun K hK => ?_)
                have q4 := hX6.at_ (i := 4) (x := sv) rfl
                have f4 := hX6.frozen 4
                show Oper.wp _ _ _ _ K _
                go_simp
                have hset : Blk (W6.setCell ⟨qx, 4, none⟩ (.slice a2 n2 c2)) qx 50 [.int .i64 v.st, .int .i64 v.fo, .int .i64 v.pub, .slice da dn dc, .slice a2 n2 c2] := hX6.set 4 (.slice a2 n2 c2)
                have hgs : W6.grownBy (W6.setCell ⟨qx, 4, none⟩ (.slice a2 n2 c2)) (some qx) := grown_set (World.grownBy.refl W6 _) (.inl rfl) _
                have hA9 := hHeld.far hgs hnx
                have hO9 := Lib.hid (hO6.grow hgs hqB)
                have hB9 : B0 ≤ (W6.setCell ⟨qx, 4, none⟩ (.slice a2 n2 c2)).heap.size := Nat.le_trans hB6 hgs.size
                refine hK.out _ _ hA9 (fun _ => ?_)
                clear hHeld hK K q4 f4 hX6 hgs hO6 hB6
                try simp only [Act.put, sA, s0, s1]
                refine wpAnyH_done (by kernel_rfl) ?_ _
                generalize W6.setCell ⟨qx, 4, none⟩ (.slice a2 n2 c2) = V5 at *
                have hA9' := Lib.hid hA9
                have hX9' := Lib.hid hset
                clear hA9 hset
                go_wp2_with fail
                go_roundw
                case rel => exact ⟨j + 1, true, (l) ++ [x], .slice a2 n2 c2, by omega, rfl, by go_num, hA9', hX9', hO9, hB9, by first | trivial | (intro e; cases e), by rw [List.length_append, List.length_singleton]; omega, hI2⟩
                case measure => simp [intOf]; omega
              | false =>
               have hl2 := hl0 rfl
               rw [insR] at hI'
               by_cases c29 : h.no ≤ x.no
               case neg =>
                rw [if_neg c29] at hI'
                have e29 : Hid (decide (h.no ≤ x.no) = false) := decide_eq_false c29
                have hI2 : Hid ((l ++ [x]) ++ insR h false (v.hs.drop (j + 1)) = RES) := by show _ = _; rw [← hI', List.append_assoc]; rfl
                clear hI' hl0 c29
                refine wp_region_held_drew (S := fun wz => AccB w tb [.int .i64 v.st, .int .i64 v.fo, .int .i64 v.pub, .slice da dn dc, .slice ha hn hc] rh zrV zrF wz) (by kernel_rfl) (hAd) (fun hHeld => ?_)
                generalize wq.drew = Wd at *
                refine tQ 0 rfl hHeld ?_
                refine tQ 1 rfl hHeld ?_
                refine tQ 2 rfl hHeld ?_
                refine tQ 3 rfl hHeld ?_
                refine tG 4 (v := ?_) rfl (Or.inl ⟨by rfl, ?_⟩) hHeld ?_
                rotate_left
                · intro wz hSw
                  have q4 : wz.cell? ⟨tb, 4, none⟩ = some (.slice (some ⟨b, off, none⟩) hn hc) := by rw [← hab.out]; exact hSw.bV.at_ (i := 4) rfl
                  go_simp
                  all_goals (with_reducible rfl)
                try simp only [Act.put, sA, s0, s1]
                refine tQ 5 rfl hHeld ?_
                refine tQ 6 rfl hHeld ?_
                refine tQ 7 rfl hHeld ?_
                refine tX 8 rfl (fun wz hSw => hxn.out wz hSw.bel) hHeld ?_
                refine tQ 9 rfl hHeld ?_
                refine tX 10 rfl (fun wz hSw => hSw.bH.at_ r2.out) hHeld ?_
                refine tX 11 rfl (fun wz hSw => e29.out) hHeld ?_
                refine tQ 12 rfl hHeld ?_
                refine wpAnyH_done (by kernel_rfl) ?_ _
                clear hHeld
                have hAs := Lib.hid hAd; have hXs := Lib.hid hXd; have hOs := Lib.hid hOd
                clear hAd hXd hOd
                go_wp2_with fail
                have hAd := hAs.out.below ((Below.refl _ Wd).drew)
                have hXd : Blk Wd.drew qx 50 [.int .i64 v.st, .int .i64 v.fo, .int .i64 v.pub, .slice da dn dc, sv] := hXs.out
                have hOd : OwnHd B0 Wd.drew (sv) (l) := hOs.out.below ((Below.refl _ Wd).drew)
                have hBd : B0 ≤ Wd.drew.heap.size := hBd
                clear hAs hXs hOs
                refine wp_region_held_drew (S := fun wz => AccB w tb [.int .i64 v.st, .int .i64 v.fo, .int .i64 v.pub, .slice da dn dc, .slice ha hn hc] rh zrV zrF wz) (by kernel_rfl) (hAd) (fun hHeld => ?_)
                generalize Wd.drew = Wt at *
                refine tQ 0 rfl hHeld ?_
                refine tQ 2 rfl hHeld ?_
                refine tG 3 (v := ?_) rfl (Or.inl ⟨by rfl, ?_⟩) hHeld ?_
                rotate_left
                · intro wz hSw
                  have q4 : wz.cell? ⟨tb, 4, none⟩ = some (.slice (some ⟨b, off, none⟩) hn hc) := by rw [← hab.out]; exact hSw.bV.at_ (i := 4) rfl
                  go_simp
                  all_goals (with_reducible rfl)
                try simp only [Act.put, sA, s0, s1]
                refine tQ 4 rfl hHeld ?_
                refine tQ 5 rfl hHeld ?_
                refine tY 6 rfl b (off + j * 37) (rx) (fun wz h => hrx.out wz h.bel) Tryz.underlying36 hix.out hHeld ?_
                refine share (G := ∀ (g5 : Nat) (WZ : World), (AccB w tb [.int .i64 v.st, .int .i64 v.fo, .int .i64 v.pub, .slice da dn dc, .slice ha hn hc] rh zrV zrF WZ) → (Blk WZ qx 50 [.int .i64 v.st, .int .i64 v.fo, .int .i64 v.pub, .slice da dn dc, sv]) → (OwnHd B0 WZ (sv) (l)) → (B0 ≤ WZ.heap.size) → (Blk WZ g5 36 rx) → (?Gn : Nat → World → Prop) g5 WZ) ?hn ?kn
                case hn =>
                 intro key
                 refine rd (rs := [1, 7]) ?_
                 refine tR rfl (fun K hK => ?_) (tR rfl (fun K hK => ?_) rn)
                 case refine_1 =>
                  have q4 := hXd.at_ (i := 4) (x := sv) rfl
                  show Oper.wp _ _ _ _ K _
                  go_simp
                  refine hK.out _ _ hHeld (fun _ => ?_)
                  clear hK K q4
                  try simp only [Act.put, sA, s0, s1]
                  refine tO 7 rfl (fun K hK => ?_)
                  refine wp_buildSlice_run _ _ _ rfl #[(0, .agg rx.toArray)] (by simp only [List.map_toArray, List.map_cons, List.map_nil]; rfl) (hsx.out _) ?_
                  have hHeld2 := hHeld.below ((Below.refl _ Wt).alloc (Nat.le_refl _) (.cells rx.toArray 36))
                  refine hK.out _ _ hHeld2 (fun _ => ?_)
                  clear hK K
                  try simp only [Act.put, sA, s0, s1]
                  have hX2 := hXd.alloc (.cells rx.toArray 36)
                  have hO2 := hOd.alloc (.cells rx.toArray 36)
                  have hB2 : B0 ≤ (Wt.alloc (.cells rx.toArray 36)).heap.size := by rw [World.size_alloc]; omega
                  have hG := Blk.new Wt 36 rx
                  obtain ⟨g5, hg5⟩ : ∃ g, Wt.heap.size = g := ⟨_, rfl⟩
                  rw [hg5] at hG ⊢
                  obtain ⟨W2, hW2⟩ : ∃ W2, Wt.alloc (.cells rx.toArray 36) = W2 := ⟨_, rfl⟩
                  rw [hW2] at hHeld2 hX2 hO2 hB2 hG ⊢
                  exact key g5 W2 hHeld2 hX2 hO2 hB2 hG
                 case refine_2 =>
                  refine wp_buildSlice_run _ _ _ rfl #[(0, .agg rx.toArray)] (by simp only [List.map_toArray, List.map_cons, List.map_nil]; rfl) (hsx.out _) ?_
                  have hHeld2 := hHeld.below ((Below.refl _ Wt).alloc (Nat.le_refl _) (.cells rx.toArray 36))
                  refine hK.out _ _ hHeld2 (fun _ => ?_)
                  clear hK K
                  try simp only [Act.put, sA, s0, s1]
                  have hX2 := hXd.alloc (.cells rx.toArray 36)
                  have hO2 := hOd.alloc (.cells rx.toArray 36)
                  have hB2 : B0 ≤ (Wt.alloc (.cells rx.toArray 36)).heap.size := by rw [World.size_alloc]; omega
                  have hG := Blk.new Wt 36 rx
                  obtain ⟨g5, hg5⟩ : ∃ g, Wt.heap.size = g := ⟨_, rfl⟩
                  rw [hg5] at hG ⊢
                  obtain ⟨W2, hW2⟩ : ∃ W2, Wt.alloc (.cells rx.toArray 36) = W2 := ⟨_, rfl⟩
                  rw [hW2] at hHeld2 hX2 hO2 hB2 hG ⊢
                  refine tO 1 rfl (fun K hK => ?_)
                  have q4 := hX2.at_ (i := 4) (x := sv) rfl
                  show Oper.wp _ _ _ _ K _
                  go_simp
                  refine hK.out _ _ hHeld2 (fun _ => ?_)
                  clear hK K q4
                  try simp only [Act.put, sA, s0, s1]
                  exact key g5 W2 hHeld2 hX2 hO2 hB2 hG
                case kn =>
                 intro g5 WZ hHeld hXd hOd hBd hG
                 refine tO 8 rfl (fun K hK => ?_)
                 obtain ⟨v2, W6, hr6, hO6, hgr6, hlw⟩ := append_hd (h := x) hOd (by rw [hrxe.out]; exact hG) okx.out (by omega) hBd
                 obtain ⟨n2, hn2⟩ : ∃ n, ((l) ++ [x]).length = n := ⟨_, rfl⟩
                 obtain ⟨a2, c2, rfl, _, _⟩ := hO6.hs (by rw [List.length_append, List.length_singleton]; omega)
                 rw [hn2] at hr6 hO6
                 clear hn2
                 have hbg := (Below.refl B0 WZ).grown hgr6 hBd hlw
                 have hX6 := hXd.below hbg hqB
                 have hA6 := hHeld.belowB hbg (by omega)
                 have hB6 : B0 ≤ W6.heap.size := Nat.le_trans hBd hbg.size
                 refine wp_append_run rfl _ _ (by rfl) (by rfl) (hr6 _) ?_
                 refine hK.out _ _ hA6 (fun hHeld2 => ?_)
                 clear hHeld hK K hA6
                 have hHeld := hHeld2
                 clear hHeld2
                 try simp only [Act.put, sA, s0, s1]
                 clear hr6 hOd hG hgr6 hbg hXd hBd
                 refine tQ 9 rfl hHeld ?_
                 refine tO 10 rfl (fun K hK => ?_)
                 have q4 := hX6.at_ (i := 4) (x := sv) rfl
                 have f4 := hX6.frozen 4
                 show Oper.wp _ _ _ _ K _
                 go_simp
                 have hset : Blk (W6.setCell ⟨qx, 4, none⟩ (.slice a2 n2 c2)) qx 50 [.int .i64 v.st, .int .i64 v.fo, .int .i64 v.pub, .slice da dn dc, .slice a2 n2 c2] := hX6.set 4 (.slice a2 n2 c2)
                 have hgs : W6.grownBy (W6.setCell ⟨qx, 4, none⟩ (.slice a2 n2 c2)) (some qx) := grown_set (World.grownBy.refl W6 _) (.inl rfl) _
                 have hA9 := hHeld.far hgs hnx
                 have hO9 := Lib.hid (hO6.grow hgs hqB)
                 have hB9 : B0 ≤ (W6.setCell ⟨qx, 4, none⟩ (.slice a2 n2 c2)).heap.size := Nat.le_trans hB6 hgs.size
                 refine hK.out _ _ hA9 (fun _ => ?_)
                 clear hHeld hK K q4 f4 hX6 hgs hO6 hB6
                 try simp only [Act.put, sA, s0, s1]
                 refine wpAnyH_done (by kernel_rfl) ?_ _
                 generalize W6.setCell ⟨qx, 4, none⟩ (.slice a2 n2 c2) = V5 at *
                 have hA9' := Lib.hid hA9
                 have hX9' := Lib.hid hset
                 clear hA9 hset
                 go_wp2_with fail
                 go_roundw
                 case rel => exact ⟨j + 1, false, (l) ++ [x], .slice a2 n2 c2, by omega, rfl, by go_num, hA9', hX9', hO9, hB9, by rw [List.length_append, List.length_singleton]; intro _; omega, by rw [List.length_append, List.length_singleton]; omega, hI2⟩
                 case measure => simp [intOf]; omega
               case pos =>
               rw [if_pos c29] at hI'
               have e29 : Hid (decide (h.no ≤ x.no) = true) := decide_eq_true c29
               clear hl0 c29
               refine wp_region_held_drew (S := fun wz => AccB w tb [.int .i64 v.st, .int .i64 v.fo, .int .i64 v.pub, .slice da dn dc, .slice ha hn hc] rh zrV zrF wz) (by kernel_rfl) (hAd) (fun hHeld => ?_)
               generalize wq.drew = Wd at *
               refine tQ 0 rfl hHeld ?_
               refine tQ 1 rfl hHeld ?_
               refine tQ 2 rfl hHeld ?_
               refine tQ 3 rfl hHeld ?_
               refine tG 4 (v := ?_) rfl (Or.inl ⟨by rfl, ?_⟩) hHeld ?_
               rotate_left
               · intro wz hSw
                 have q4 : wz.cell? ⟨tb, 4, none⟩ = some (.slice (some ⟨b, off, none⟩) hn hc) := by rw [← hab.out]; exact hSw.bV.at_ (i := 4) rfl
                 go_simp
                 all_goals (with_reducible rfl)
               try simp only [Act.put, sA, s0, s1]
               refine tQ 5 rfl hHeld ?_
               refine tQ 6 rfl hHeld ?_
               refine tQ 7 rfl hHeld ?_
               refine tX 8 rfl (fun wz hSw => hxn.out wz hSw.bel) hHeld ?_
               refine tQ 9 rfl hHeld ?_
               refine tX 10 rfl (fun wz hSw => hSw.bH.at_ r2.out) hHeld ?_
               refine tX 11 rfl (fun wz hSw => e29.out) hHeld ?_
               refine tQ 12 rfl hHeld ?_
               refine wpAnyH_done (by kernel_rfl) ?_ _
               clear hHeld
               by_cases c30 : h.no < x.no
               case neg =>
                rw [if_neg c30] at hI'
                have e30 : Hid (decide (h.no < x.no) = false) := decide_eq_false c30
                have hI2 : Hid ((l ++ [x]) ++ insR h true (v.hs.drop (j + 1)) = RES) := by show _ = _; rw [← hI', List.append_assoc]; rfl
                clear hI' c30
                go_wp2_with fail
                have hAe := hAd.below ((Below.refl _ Wd).drew)
                have hXe : Blk Wd.drew qx 50 [.int .i64 v.st, .int .i64 v.fo, .int .i64 v.pub, .slice da dn dc, sv] := hXd
                have hOe : OwnHd B0 Wd.drew sv l := hOd.below ((Below.refl _ Wd).drew)
                have hBe : B0 ≤ Wd.drew.heap.size := hBd
                clear hAd hXd hOd hBd
                refine wp_region_held_drew (S := fun wz => AccB w tb [.int .i64 v.st, .int .i64 v.fo, .int .i64 v.pub, .slice da dn dc, .slice ha hn hc] rh zrV zrF wz) (by kernel_rfl) (hAe) (fun hHeld => ?_)
                generalize Wd.drew = We at *
                refine tQ 0 rfl hHeld ?_
                refine tG 1 (v := ?_) rfl (Or.inl ⟨by rfl, ?_⟩) hHeld ?_
                rotate_left
                · intro wz hSw
                  have q4 : wz.cell? ⟨tb, 4, none⟩ = some (.slice (some ⟨b, off, none⟩) hn hc) := by rw [← hab.out]; exact hSw.bV.at_ (i := 4) rfl
                  go_simp
                  all_goals (with_reducible rfl)
                try simp only [Act.put, sA, s0, s1]
                refine tQ 2 rfl hHeld ?_
                refine tQ 3 rfl hHeld ?_
                refine tQ 4 rfl hHeld ?_
                refine tX 5 rfl (fun wz hSw => hxn.out wz hSw.bel) hHeld ?_
                refine tQ 6 rfl hHeld ?_
                refine tX 7 rfl (fun wz hSw => hSw.bH.at_ r2.out) hHeld ?_
                refine tX 8 rfl (fun wz hSw => e30.out) hHeld ?_
                refine wpAnyH_done (by kernel_rfl) ?_ _
                clear hHeld
                have hAs := Lib.hid hAe; have hXs := Lib.hid hXe; have hOs := Lib.hid hOe
                clear hAe hXe hOe
                go_wp2_with fail
                have hAd := hAs.out.below ((Below.refl _ We).drew)
                have hXd : Blk We.drew qx 50 [.int .i64 v.st, .int .i64 v.fo, .int .i64 v.pub, .slice da dn dc, sv] := hXs.out
                have hOd : OwnHd B0 We.drew (sv) (l) := hOs.out.below ((Below.refl _ We).drew)
                have hBd : B0 ≤ We.drew.heap.size := hBe
                clear hAs hXs hOs
                refine wp_region_held_drew (S := fun wz => AccB w tb [.int .i64 v.st, .int .i64 v.fo, .int .i64 v.pub, .slice da dn dc, .slice ha hn hc] rh zrV zrF wz) (by kernel_rfl) (hAd) (fun hHeld => ?_)
                generalize We.drew = Wt at *
                refine tQ 0 rfl hHeld ?_
                refine tQ 2 rfl hHeld ?_
                refine tG 3 (v := ?_) rfl (Or.inl ⟨by rfl, ?_⟩) hHeld ?_
                rotate_left
                · intro wz hSw
                  have q4 : wz.cell? ⟨tb, 4, none⟩ = some (.slice (some ⟨b, off, none⟩) hn hc) := by rw [← hab.out]; exact hSw.bV.at_ (i := 4) rfl
                  go_simp
                  all_goals (with_reducible rfl)
                try simp only [Act.put, sA, s0, s1]
                refine tQ 4 rfl hHeld ?_
                refine tQ 5 rfl hHeld ?_
                refine tY 6 rfl b (off + j * 37) (rx) (fun wz h => hrx.out wz h.bel) Tryz.underlying36 hix.out hHeld ?_
                refine share (G := ∀ (g5 : Nat) (WZ : World), (AccB w tb [.int .i64 v.st, .int .i64 v.fo, .int .i64 v.pub, .slice da dn dc, .slice ha hn hc] rh zrV zrF WZ) → (Blk WZ qx 50 [.int .i64 v.st, .int .i64 v.fo, .int .i64 v.pub, .slice da dn dc, sv]) → (OwnHd B0 WZ (sv) (l)) → (B0 ≤ WZ.heap.size) → (Blk WZ g5 36 rx) → (?Go : Nat → World → Prop) g5 WZ) ?ho ?ko
                case ho =>
                 intro key
                 refine rd (rs := [1, 7]) ?_
                 refine tR rfl (fun K hK => ?_) (tR rfl (fun K hK => ?_) rn)
                 case refine_1 =>
                  have q4 := hXd.at_ (i := 4) (x := sv) rfl
                  show Oper.wp _ _ _ _ K _
                  go_simp
                  refine hK.out _ _ hHeld (fun _ => ?_)
                  clear hK K q4
                  try simp only [Act.put, sA, s0, s1]
                  refine tO 7 rfl (fun K hK => ?_)
                  refine wp_buildSlice_run _ _ _ rfl #[(0, .agg rx.toArray)] (by simp only [List.map_toArray, List.map_cons, List.map_nil]; rfl) (hsx.out _) ?_
                  have hHeld2 := hHeld.below ((Below.refl _ Wt).alloc (Nat.le_refl _) (.cells rx.toArray 36))
                  refine hK.out _ _ hHeld2 (fun _ => ?_)
                  clear hK K
                  try simp only [Act.put, sA, s0, s1]
                  have hX2 := hXd.alloc (.cells rx.toArray 36)
                  have hO2 := hOd.alloc (.cells rx.toArray 36)
                  have hB2 : B0 ≤ (Wt.alloc (.cells rx.toArray 36)).heap.size := by rw [World.size_alloc]; omega
                  have hG := Blk.new Wt 36 rx
                  obtain ⟨g5, hg5⟩ : ∃ g, Wt.heap.size = g := ⟨_, rfl⟩
                  rw [hg5] at hG ⊢
                  obtain ⟨W2, hW2⟩ : ∃ W2, Wt.alloc (.cells rx.toArray 36) = W2 := ⟨_, rfl⟩
                  rw [hW2] at hHeld2 hX2 hO2 hB2 hG ⊢
                  exact key g5 W2 hHeld2 hX2 hO2 hB2 hG
                 case refine_2 =>
                  refine wp_buildSlice_run _ _ _ rfl #[(0, .agg rx.toArray)] (by simp only [List.map_toArray, List.map_cons, List.map_nil]; rfl) (hsx.out _) ?_
                  have hHeld2 := hHeld.below ((Below.refl _ Wt).alloc (Nat.le_refl _) (.cells rx.toArray 36))
                  refine hK.out _ _ hHeld2 (fun _ => ?_)
                  clear hK K
                  try simp only [Act.put, sA, s0, s1]
                  have hX2 := hXd.alloc (.cells rx.toArray 36)
                  have hO2 := hOd.alloc (.cells rx.toArray 36)
                  have hB2 : B0 ≤ (Wt.alloc (.cells rx.toArray 36)).heap.size := by rw [World.size_alloc]; omega
                  have hG := Blk.new Wt 36 rx
                  obtain ⟨g5, hg5⟩ : ∃ g, Wt.heap.size = g := ⟨_, rfl⟩
                  rw [hg5] at hG ⊢
                  obtain ⟨W2, hW2⟩ : ∃ W2, Wt.alloc (.cells rx.toArray 36) = W2 := ⟨_, rfl⟩
                  rw [hW2] at hHeld2 hX2 hO2 hB2 hG ⊢
                  refine tO 1 rfl (fun K hK => ?_)
                  have q4 := hX2.at_ (i := 4) (x := sv) rfl
                  show Oper.wp _ _ _ _ K _
                  go_simp
                  refine hK.out _ _ hHeld2 (fun _ => ?_)
                  clear hK K q4
                  try simp only [Act.put, sA, s0, s1]
                  exact key g5 W2 hHeld2 hX2 hO2 hB2 hG
                case ko =>
                 intro g5 WZ hHeld hXd hOd hBd hG
                 refine tO 8 rfl (fun K hK => ?_)
                 obtain ⟨v2, W6, hr6, hO6, hgr6, hlw⟩ := append_hd (h := x) hOd (by rw [hrxe.out]; exact hG) okx.out (by omega) hBd
                 obtain ⟨n2, hn2⟩ : ∃ n, ((l) ++ [x]).length = n := ⟨_, rfl⟩
                 obtain ⟨a2, c2, rfl, _, _⟩ := hO6.hs (by rw [List.length_append, List.length_singleton]; omega)
                 rw [hn2] at hr6 hO6
                 clear hn2
                 have hbg := (Below.refl B0 WZ).grown hgr6 hBd hlw
                 have hX6 := hXd.below hbg hqB
                 have hA6 := hHeld.belowB hbg (by omega)
                 have hB6 : B0 ≤ W6.heap.size := Nat.le_trans hBd hbg.size
                 refine wp_append_run rfl _ _ (by rfl) (by rfl) (hr6 _) ?_
                 refine hK.out _ _ hA6 (fun hHeld2 => ?_)
                 clear hHeld hK K hA6
                 have hHeld := hHeld2
                 clear hHeld2
                 try simp only [Act.put, sA, s0, s1]
                 clear hr6 hOd hG hgr6 hbg hXd hBd
                 refine tQ 9 rfl hHeld ?_
                 refine tO 10 rfl (fun K hK => ?_)
                 have q4 := hX6.at_ (i := 4) (x := sv) rfl
                 have f4 := hX6.frozen 4
                 show Oper.wp _ _ _ _ K _
                 go_simp
                 have hset : Blk (W6.setCell ⟨qx, 4, none⟩ (.slice a2 n2 c2)) qx 50 [.int .i64 v.st, .int .i64 v.fo, .int .i64 v.pub, .slice da dn dc, .slice a2 n2 c2] := hX6.set 4 (.slice a2 n2 c2)
                 have hgs : W6.grownBy (W6.setCell ⟨qx, 4, none⟩ (.slice a2 n2 c2)) (some qx) := grown_set (World.grownBy.refl W6 _) (.inl rfl) _
                 have hA9 := hHeld.far hgs hnx
                 have hO9 := Lib.hid (hO6.grow hgs hqB)
                 have hB9 : B0 ≤ (W6.setCell ⟨qx, 4, none⟩ (.slice a2 n2 c2)).heap.size := Nat.le_trans hB6 hgs.size
                 refine hK.out _ _ hA9 (fun _ => ?_)
                 clear hHeld hK K q4 f4 hX6 hgs hO6 hB6
                 try simp only [Act.put, sA, s0, s1]
                 refine wpAnyH_done (by kernel_rfl) ?_ _
                 generalize W6.setCell ⟨qx, 4, none⟩ (.slice a2 n2 c2) = V5 at *
                 have hA9' := Lib.hid hA9
                 have hX9' := Lib.hid hset
                 clear hA9 hset
                 go_wp2_with fail
                 go_roundw
                 case rel => exact ⟨j + 1, true, (l) ++ [x], .slice a2 n2 c2, by omega, rfl, by go_num, hA9', hX9', hO9, hB9, by first | trivial | (intro e; cases e), by rw [List.length_append, List.length_singleton]; omega, hI2⟩
                 case measure => simp [intOf]; omega
               case pos =>
                rw [if_pos c30] at hI'
                have e30 : Hid (decide (h.no < x.no) = true) := decide_eq_true c30
                have hI2 : Hid (((l ++ [h]) ++ [x]) ++ insR h true (v.hs.drop (j + 1)) = RES) := by show _ = _; rw [← hI', List.append_assoc, List.append_assoc]; rfl
                clear hI' c30
                go_wp2_with fail
                have hAe := hAd.below ((Below.refl _ Wd).drew)
                have hXe : Blk Wd.drew qx 50 [.int .i64 v.st, .int .i64 v.fo, .int .i64 v.pub, .slice da dn dc, sv] := hXd
                have hOe : OwnHd B0 Wd.drew sv l := hOd.below ((Below.refl _ Wd).drew)
                have hBe : B0 ≤ Wd.drew.heap.size := hBd
                clear hAd hXd hOd hBd
                refine wp_region_held_drew (S := fun wz => AccB w tb [.int .i64 v.st, .int .i64 v.fo, .int .i64 v.pub, .slice da dn dc, .slice ha hn hc] rh zrV zrF wz) (by kernel_rfl) (hAe) (fun hHeld => ?_)
                generalize Wd.drew = We at *
                refine tQ 0 rfl hHeld ?_
                refine tG 1 (v := ?_) rfl (Or.inl ⟨by rfl, ?_⟩) hHeld ?_
                rotate_left
                · intro wz hSw
                  have q4 : wz.cell? ⟨tb, 4, none⟩ = some (.slice (some ⟨b, off, none⟩) hn hc) := by rw [← hab.out]; exact hSw.bV.at_ (i := 4) rfl
                  go_simp
                  all_goals (with_reducible rfl)
                try simp only [Act.put, sA, s0, s1]
                refine tQ 2 rfl hHeld ?_
                refine tQ 3 rfl hHeld ?_
                refine tQ 4 rfl hHeld ?_
                refine tX 5 rfl (fun wz hSw => hxn.out wz hSw.bel) hHeld ?_
                refine tQ 6 rfl hHeld ?_
                refine tX 7 rfl (fun wz hSw => hSw.bH.at_ r2.out) hHeld ?_
                refine tX 8 rfl (fun wz hSw => e30.out) hHeld ?_
                refine wpAnyH_done (by kernel_rfl) ?_ _
                clear hHeld
                obtain ⟨v1, Wf, hr1, hO1, hg1, hl1⟩ := append_hd (h := h) (g := We.heap.size) (hOe.alloc (.cells rh.toArray 36)) (by rw [hrh.out]; exact Blk.new We _ rh) ok'.out (by omega) (by rw [World.size_alloc]; omega)
                obtain ⟨n1, hn1⟩ : ∃ n, (l ++ [h]).length = n := ⟨_, rfl⟩
                obtain ⟨a1, c1, rfl, _, _⟩ := hO1.hs (by rw [List.length_append, List.length_singleton]; omega)
                rw [hn1] at hr1 hO1
                clear hn1
                have hbg : Below B0 We Wf := ((Below.refl B0 We).alloc hBe _).grown hg1 (by rw [World.size_alloc]; omega) hl1
                have hXf := hXe.below hbg hqB
                have hAf := hAe.belowB hbg (by omega)
                have q4 := hXe.at_ (i := 4) (x := sv) rfl
                have q4' := hXf.at_ (i := 4) (x := sv) rfl
                have f4' := hXf.frozen 4
                have hgr := Lib.hid hAe.bH.range
                have hr1' := Lib.hid hr1
                have hX9 : Hid (Blk (Wf.setCell ⟨qx, 4, none⟩ (.slice a1 n1 c1)) qx 50 [.int .i64 v.st, .int .i64 v.fo, .int .i64 v.pub, .slice da dn dc, .slice a1 n1 c1]) := hXf.set 4 (.slice a1 n1 c1)
                have hgs : Wf.grownBy (Wf.setCell ⟨qx, 4, none⟩ (.slice a1 n1 c1)) (some qx) := grown_set (World.grownBy.refl Wf _) (.inl rfl) _
                have hA9 := Lib.hid (hAf.far hgs hnx)
                have hO9 := Lib.hid (hO1.grow hgs hqB)
                have hB9 : B0 ≤ (Wf.setCell ⟨qx, 4, none⟩ (.slice a1 n1 c1)).heap.size := Nat.le_trans (Nat.le_trans hBe hbg.size) hgs.size
                clear hAe hXe hOe hBe hO1 hg1 hl1 hbg hXf hAf hgs hr1
                go_wp2_with (first
                 | (refine wpList_load_mid (by rfl) 36 (.tmp 5) (by rfl) (tb + 1) 0 (by rfl) rh _ hgr.out Tryz.underlying36 (by rfl) hri.out ?_)
                  | (refine wpList_buildSlice_run (by rfl) 48 1 _ rfl #[(0, .agg rh.toArray)] (by simp only [List.map_toArray, List.map_cons, List.map_nil]; rfl) (hsl.out We) ?_)
                  | (at_builtin; refine Lib.wpList_append_run _ rfl _ _ _ _ rfl _ _ rfl rfl _ _ (hr1'.out _) ?_))
                clear q4 q4' f4' hgr hr1'
                generalize Wf.setCell ⟨qx, 4, none⟩ (.slice a1 n1 c1) = Ws at *
                have hl4 : (l ++ [h]).length ≤ j + 1 := by rw [List.length_append, List.length_singleton]; omega
                go_wp2_with fail
                have hAd := hA9.out.below ((Below.refl _ Ws).drew)
                have hXd : Blk Ws.drew qx 50 [.int .i64 v.st, .int .i64 v.fo, .int .i64 v.pub, .slice da dn dc, .slice a1 n1 c1] := hX9.out
                have hOd : OwnHd B0 Ws.drew (.slice a1 n1 c1) (l ++ [h]) := hO9.out.below ((Below.refl _ Ws).drew)
                have hBd : B0 ≤ Ws.drew.heap.size := hB9
                clear hA9 hX9 hO9
                refine wp_region_held_drew (S := fun wz => AccB w tb [.int .i64 v.st, .int .i64 v.fo, .int .i64 v.pub, .slice da dn dc, .slice ha hn hc] rh zrV zrF wz) (by kernel_rfl) (hAd) (fun hHeld => ?_)
                generalize Ws.drew = Wt at *
                refine tQ 0 rfl hHeld ?_
                refine tQ 2 rfl hHeld ?_
                refine tG 3 (v := ?_) rfl (Or.inl ⟨by rfl, ?_⟩) hHeld ?_
                rotate_left
                · intro wz hSw
                  have q4 : wz.cell? ⟨tb, 4, none⟩ = some (.slice (some ⟨b, off, none⟩) hn hc) := by rw [← hab.out]; exact hSw.bV.at_ (i := 4) rfl
                  go_simp
                  all_goals (with_reducible rfl)
                try simp only [Act.put, sA, s0, s1]
                refine tQ 4 rfl hHeld ?_
                refine tQ 5 rfl hHeld ?_
                refine tY 6 rfl b (off + j * 37) (rx) (fun wz h => hrx.out wz h.bel) Tryz.underlying36 hix.out hHeld ?_
                refine share (G := ∀ (g5 : Nat) (WZ : World), (AccB w tb [.int .i64 v.st, .int .i64 v.fo, .int .i64 v.pub, .slice da dn dc, .slice ha hn hc] rh zrV zrF WZ) → (Blk WZ qx 50 [.int .i64 v.st, .int .i64 v.fo, .int .i64 v.pub, .slice da dn dc, .slice a1 n1 c1]) → (OwnHd B0 WZ (.slice a1 n1 c1) (l ++ [h])) → (B0 ≤ WZ.heap.size) → (Blk WZ g5 36 rx) → (?Gq : Nat → World → Prop) g5 WZ) ?hq ?kq
                case hq =>
                 intro key
                 refine rd (rs := [1, 7]) ?_
                 refine tR rfl (fun K hK => ?_) (tR rfl (fun K hK => ?_) rn)
                 case refine_1 =>
                  have q4 := hXd.at_ (i := 4) (x := .slice a1 n1 c1) rfl
                  show Oper.wp _ _ _ _ K _
                  go_simp
                  refine hK.out _ _ hHeld (fun _ => ?_)
                  clear hK K q4
                  try simp only [Act.put, sA, s0, s1]
                  refine tO 7 rfl (fun K hK => ?_)
                  refine wp_buildSlice_run _ _ _ rfl #[(0, .agg rx.toArray)] (by simp only [List.map_toArray, List.map_cons, List.map_nil]; rfl) (hsx.out _) ?_
                  have hHeld2 := hHeld.below ((Below.refl _ Wt).alloc (Nat.le_refl _) (.cells rx.toArray 36))
                  refine hK.out _ _ hHeld2 (fun _ => ?_)
                  clear hK K
                  try simp only [Act.put, sA, s0, s1]
                  have hX2 := hXd.alloc (.cells rx.toArray 36)
                  have hO2 := hOd.alloc (.cells rx.toArray 36)
                  have hB2 : B0 ≤ (Wt.alloc (.cells rx.toArray 36)).heap.size := by rw [World.size_alloc]; omega
                  have hG := Blk.new Wt 36 rx
                  obtain ⟨g5, hg5⟩ : ∃ g, Wt.heap.size = g := ⟨_, rfl⟩
                  rw [hg5] at hG ⊢
                  obtain ⟨W2, hW2⟩ : ∃ W2, Wt.alloc (.cells rx.toArray 36) = W2 := ⟨_, rfl⟩
                  rw [hW2] at hHeld2 hX2 hO2 hB2 hG ⊢
                  exact key g5 W2 hHeld2 hX2 hO2 hB2 hG
                 case refine_2 =>
                  refine wp_buildSlice_run _ _ _ rfl #[(0, .agg rx.toArray)] (by simp only [List.map_toArray, List.map_cons, List.map_nil]; rfl) (hsx.out _) ?_
                  have hHeld2 := hHeld.below ((Below.refl _ Wt).alloc (Nat.le_refl _) (.cells rx.toArray 36))
                  refine hK.out _ _ hHeld2 (fun _ => ?_)
                  clear hK K
                  try simp only [Act.put, sA, s0, s1]
                  have hX2 := hXd.alloc (.cells rx.toArray 36)
                  have hO2 := hOd.alloc (.cells rx.toArray 36)
                  have hB2 : B0 ≤ (Wt.alloc (.cells rx.toArray 36)).heap.size := by rw [World.size_alloc]; omega
                  have hG := Blk.new Wt 36 rx
                  obtain ⟨g5, hg5⟩ : ∃ g, Wt.heap.size = g := ⟨_, rfl⟩
                  rw [hg5] at hG ⊢
                  obtain ⟨W2, hW2⟩ : ∃ W2, Wt.alloc (.cells rx.toArray 36) = W2 := ⟨_, rfl⟩
                  rw [hW2] at hHeld2 hX2 hO2 hB2 hG ⊢
                  refine tO 1 rfl (fun K hK => ?_)
                  have q4 := hX2.at_ (i := 4) (x := .slice a1 n1 c1) rfl
                  show Oper.wp _ _ _ _ K _
                  go_simp
                  refine hK.out _ _ hHeld2 (fun _ => ?_)
                  clear hK K q4
                  try simp only [Act.put, sA, s0, s1]
                  exact key g5 W2 hHeld2 hX2 hO2 hB2 hG
                case kq =>
                 intro g5 WZ hHeld hXd hOd hBd hG
                 refine tO 8 rfl (fun K hK => ?_)
                 obtain ⟨v2, W6, hr6, hO6, hgr6, hlw⟩ := append_hd (h := x) hOd (by rw [hrxe.out]; exact hG) okx.out (by omega) hBd
                 obtain ⟨n2, hn2⟩ : ∃ n, ((l ++ [h]) ++ [x]).length = n := ⟨_, rfl⟩
                 obtain ⟨a2, c2, rfl, _, _⟩ := hO6.hs (by rw [List.length_append, List.length_singleton]; omega)
                 rw [hn2] at hr6 hO6
                 clear hn2
                 have hbg := (Below.refl B0 WZ).grown hgr6 hBd hlw
                 have hX6 := hXd.below hbg hqB
                 have hA6 := hHeld.belowB hbg (by omega)
                 have hB6 : B0 ≤ W6.heap.size := Nat.le_trans hBd hbg.size
                 refine wp_append_run rfl _ _ (by rfl) (by rfl) (hr6 _) ?_
                 refine hK.out _ _ hA6 (fun hHeld2 => ?_)
                 clear hHeld hK K hA6
                 have hHeld := hHeld2
                 clear hHeld2
                 try simp only [Act.put, sA, s0, s1]
                 clear hr6 hOd hG hgr6 hbg hXd hBd
                 refine tQ 9 rfl hHeld ?_
                 refine tO 10 rfl (fun K hK => ?_)
                 have q4 := hX6.at_ (i := 4) (x := .slice a1 n1 c1) rfl
                 have f4 := hX6.frozen 4
                 show Oper.wp _ _ _ _ K _
                 go_simp
                 have hset : Blk (W6.setCell ⟨qx, 4, none⟩ (.slice a2 n2 c2)) qx 50 [.int .i64 v.st, .int .i64 v.fo, .int .i64 v.pub, .slice da dn dc, .slice a2 n2 c2] := hX6.set 4 (.slice a2 n2 c2)
                 have hgs : W6.grownBy (W6.setCell ⟨qx, 4, none⟩ (.slice a2 n2 c2)) (some qx) := grown_set (World.grownBy.refl W6 _) (.inl rfl) _
                 have hA9 := hHeld.far hgs hnx
                 have hO9 := Lib.hid (hO6.grow hgs hqB)
                 have hB9 : B0 ≤ (W6.setCell ⟨qx, 4, none⟩ (.slice a2 n2 c2)).heap.size := Nat.le_trans hB6 hgs.size
                 refine hK.out _ _ hA9 (fun _ => ?_)
                 clear hHeld hK K q4 f4 hX6 hgs hO6 hB6
                 try simp only [Act.put, sA, s0, s1]
                 refine wpAnyH_done (by kernel_rfl) ?_ _
                 generalize W6.setCell ⟨qx, 4, none⟩ (.slice a2 n2 c2) = V5 at *
                 have hA9' := Lib.hid hA9
                 have hX9' := Lib.hid hset
                 clear hA9 hset
                 go_wp2_with fail
                 go_roundw
                 case rel => exact ⟨j + 1, true, (l ++ [h]) ++ [x], .slice a2 n2 c2, by omega, rfl, by go_num, hA9', hX9', hO9, hB9, by first | trivial | (intro e; cases e), by rw [List.length_append, List.length_singleton]; omega, hI2⟩
                 case measure => simp [intOf]; omega
            · obtain rfl : hn = j := by omega
              have hRl : Hid (l = RES) := by
               have := hI.out
               rw [List.drop_eq_nil_of_le (by have := hhl.out; omega)] at this
               show _ = _
               rw [← this]
               cases p <;> simp [insR]
              obtain ⟨a9, c9, rfl, hH9, hlo9⟩ := hO.out.hs (by omega)
              obtain ⟨nl, hnl⟩ : ∃ n, l.length = n := ⟨_, rfl⟩
              rw [hnl] at hH9 hXq hl1 hl0
              rw [hRl.out] at hH9
              have hHh := Lib.hid hH9
              have hlh := Lib.hid hlo9
              have hAz := Lib.hid hA.out
              have hXz := Lib.hid hXq.out
              have hHz : Hid (∀ Wa Wb, PutR 50 wq Wa (tb + 1 + 1) 50 [.int .i64 v.st, .int .i64 v.fo, .int .i64 v.pub, .slice da dn dc, .slice a9 nl c9] → PutR 53 Wa Wb (tb + 1 + 1 + 1) 53 zrF → HS Wb a9 nl c9 RES) := fun Wa Wb h1 h2 => h2.hs (h1.hs hHh.out (fun ad e => by have := hlh.out ad e; omega)) (fun ad e => by have := hlh.out ad e; omega)
              clear hO hI hH9 hlo9 hA hXq hRl hlt
              obtain ⟨Wa, Wb, hPa, hPb, hbR, hbF, hbl, hvA, hhA, hvB, hhB⟩ := acc_fin hAz.out (rR := [.int .i64 v.st, .int .i64 v.fo, .int .i64 v.pub, .slice da dn dc, .slice a9 nl c9]) (rF := zrF) rfl (view_one _ _ _ _ _ _ _ _ _) rfl zone.out
              have hPa' := Lib.hid hPa; have hPb' := Lib.hid hPb; have hbR' := Lib.hid hbR; have hbF' := Lib.hid hbF
              have hend : Hid (X (.returned (.tuple #[.agg ([.int .i64 v.st, .int .i64 v.fo, .int .i64 v.pub, .slice da dn dc, .slice a9 nl c9] : List Value).toArray, .agg (zrF).toArray, .int .i64 0])) Wb) := hX.out (⟨v.st, v.fo, v.pub, v.ds, RES⟩, zeroF, 0) da dn dc a9 nl c9 none 0 0 Wb hrC.out ⟨H'.out.st, H'.out.fo, H'.out.pub, H'.out.ds.below hbl, hHz.out Wa Wb hPa hPb, H'.out.bd⟩ okF0 (ds_nil Wb) (by omega) hbl
              have x0 := hXz.out.at_ (i := 0) rfl
              have x1 := hXz.out.at_ (i := 1) rfl
              have x2 := hXz.out.at_ (i := 2) rfl
              have x3 := hXz.out.at_ (i := 3) rfl
              have x4 := hXz.out.at_ (i := 4) rfl
              clear hPa hPb hbR hbF hbl hvA hhA hvB hhB
              generalize zrF = rf at *
              go_wp2_with (first
               | (refine wpList_build_run (by rfl) 53 _ rfl #[] (by simp) (hbf.out _) ?_)
                | (refine wpList_store_mid (by rfl) 50 (.tmp 6) (.tmp 182) (by rfl) (tb + 1 + 1) 0 ([.int .i64 v.st, .int .i64 v.fo, .int .i64 v.pub, .slice da dn dc, .slice a9 nl c9] : List Value).toArray (by rfl) (by rfl) hPa'.out.there hPa'.out.info (by simpa using hPa'.out.one) ?_
                   generalize hWq : World.setCells _ _ _ _ = Wq
                   obtain rfl : Wa = Wq := by rw [← hWq]; exact hPa'.out.eq
                   clear hWq)
                | (refine wpList_store_mid (by rfl) 53 (.tmp 7) (.tmp 183) (by rfl) (tb + 1 + 1 + 1) 0 (rf : List Value).toArray (by rfl) (by rfl) hPb'.out.there hPb'.out.info (by simpa using hPb'.out.one) ?_
                   generalize hWq : World.setCells _ _ _ _ = Wq
                   obtain rfl : Wb = Wq := by rw [← hWq]; exact hPb'.out.eq
                   clear hWq))
              exact ret_cell_cell_tmp (fn := Tryz.f31) (p := 6) (q := 7) (u := 8) rfl hbR'.out Tryz.underlying50 rfl sizeVw hbF'.out Tryz.underlying53 rfl zi.out rfl rfl rfl rfl hend.out
end Go.Proofs.YtnonfdcbnkdmcaaGreatDoor
