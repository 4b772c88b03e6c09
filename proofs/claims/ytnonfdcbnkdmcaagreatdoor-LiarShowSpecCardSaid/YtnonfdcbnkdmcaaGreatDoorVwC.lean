/- views.accuse, Check, New, isEntry views.New, Check, isEntry slices.Clone and slices.Insert at []api.Head slices.BinarySearchFunc at []api.Head by numbers; one head inserted slices of digests: appended to, and their parts rows of heads: what a slice of heads reads as, one head's slice, an owned row as a slice of heads heads compared views.Accept -/
import Derived.Test.YtnonfdcbnkdmcaaGreatDoorAl
import Derived.Test.YtnonfdcbnkdmcaaGreatDoorVwB
import Derived.Test.YtnonfdcbnkdmcaaGreatDoorRow
import Derived.Deep.QuietTactic
import Derived.BigQuiet
import Derived.Test.YtnonfdcbnkdmcaaGreatDoorRgA
import Derived.Test.YtnonfdcbnkdmcaaGreatDoorSgA
namespace Go.Proofs.YtnonfdcbnkdmcaaGreatDoor
open Go.RowKit Go.Mem Go.Shelf
open Go.Vw (Hd Fk fitsB oddP oddI zeroH zeroF lastH ownsB verH validB accuse)

end Go.Proofs.YtnonfdcbnkdmcaaGreatDoor
namespace Go.Proofs.YtnonfdcbnkdmcaaGreatDoor
open Go.RowKit Go.Mem Go.Shelf
open Go.Sto (Ent)
open Go.Vw (entOk validB checkV)

end Go.Proofs.YtnonfdcbnkdmcaaGreatDoor
namespace Go.Proofs.YtnonfdcbnkdmcaaGreatDoor
open Go.RowKit Go.Mem

end Go.Proofs.YtnonfdcbnkdmcaaGreatDoor
namespace Go.Vw
def posH (k : Int) : List Hd → Nat
 | [] => 0
 | x :: r => if x.no < k then posH k r + 1 else 0
def hasH (k : Int) : List Hd → Bool
 | [] => false
 | x :: r => if x.no < k then hasH k r else decide (x.no = k)
end Go.Vw
namespace Go.Proofs.YtnonfdcbnkdmcaaGreatDoor
open Go.RowKit Go.Mem Go.Shelf
open Go.Vw (Hd posH hasH insH)

end Go.Proofs.YtnonfdcbnkdmcaaGreatDoor
namespace Go.Proofs.YtnonfdcbnkdmcaaGreatDoor
open Go.RowKit Go.Mem
theorem DS.take {W : World} {a : Option Addr} {n c k : Nat} {l : List (List Nat)} (h : DS W a n c l) (hk : k ≤ n) : DS W a k c (l.take k) := by
 refine ⟨by rw [List.length_take, h.len]; omega, by have := h.le; omega, h.max, fun e => by have := h.nil e; omega, fun hk0 ad e => ?_, fun x hx => h.ok x (List.mem_of_mem_take hx)⟩
 obtain ⟨b, off, e1, hb, hc⟩ := h.cells (by omega) ad e
 refine ⟨b, off, e1, hb, fun i x hx => hc i x ?_⟩
 have hi : i < k := by have := (List.getElem?_eq_some_iff.1 hx).1; rw [List.length_take] at this; omega
 rwa [List.getElem?_take_of_lt hi] at hx
end Go.Proofs.YtnonfdcbnkdmcaaGreatDoor
namespace Go.Proofs.YtnonfdcbnkdmcaaGreatDoor
open Go.RowKit Go.Mem Go.Shelf
open Go.Vw (Hd posH hasH insH)

def hdRows (l : List Hd) : List Value := (l.map hdC).flatten
theorem HS.reads {w : World} {a : Option Addr} {n c : Nat} {l : List Hd} (H : HS w a n c l) : Sl.Reads w a n c 37 (hdRows l) := by
 obtain ⟨rows, hR, hO⟩ := H.rs.rows
 have : rows = l.map hdC := by
  apply List.ext_getElem?
  intro i
  rw [List.getElem?_map]
  cases hl : l[i]? with
  | none =>
   rw [List.getElem?_eq_none_iff] at hl
   rw [List.getElem?_eq_none (by rw [hO.len]; exact hl)]
   rfl
  | some h =>
   obtain ⟨r, hr, ⟨_, er⟩, _⟩ := hO.get hl
   rw [hr, er]
   rfl
 rw [this] at hR
 exact hR
end Go.Proofs.YtnonfdcbnkdmcaaGreatDoor
namespace Go.Proofs.YtnonfdcbnkdmcaaGreatDoor
open Go.RowKit Go.Mem
open Go.Vw (Hd eqH)

theorem cellsHd : Tryz.prog.cellsOf 36 = 37 := by kernel_rfl
theorem cellsSg : Tryz.prog.cellsOf 34 = 2 := by kernel_rfl
theorem cellsI : Tryz.prog.cellsOf 3 = 1 := by kernel_rfl
theorem keyTH : Tryz.prog.keyTypeAt 3 36 = true := by kernel_rfl
def litH (h : Hd) : List Lit := [.int .i64 h.st, .int .i64 h.fo, .int .i64 h.no] ++ (digL h.ch ++ [.int .i64 h.R, .int .i64 h.S])
theorem i64_wf {x : Int} (h : I64 x) : (Lit.int .i64 x).wf = true := by
 have e1 : IntKind.i64.min = -9223372036854775808 := rfl
 have e2 : IntKind.i64.max = 9223372036854775807 := rfl
 unfold I64 at h
 simp only [Lit.wf, Bool.and_eq_true, decide_eq_true_eq]
 omega
theorem keyLits_int (D : Nat) {x : Int} (h : I64 x) : Tryz.prog.keyLits (D + 1) 3 [.int .i64 x] = some [.int .i64 x] := by
 unfold Program.keyLits
 rw [Tryz.underlying3]
 simp [i64_wf h]
theorem keyLits_sig (D : Nat) {r s : Int} (hr : I64 r) (hs : I64 s) : Tryz.prog.keyLits (D + 2) 34 [.int .i64 r, .int .i64 s] = some [.int .i64 r, .int .i64 s] := by
 unfold Program.keyLits
 rw [Tryz.underlying34]
 simp only [cellsSg, List.length_cons, List.length_nil]
 simp [cellsI, keyLits_int D hr, keyLits_int D hs]
theorem hdC_parts {h : Hd} (ok : OkH h) : ((hdC h).drop 0).take 1 = [.int .i64 h.st] ∧ ((hdC h).drop 1).take 1 = [.int .i64 h.fo] ∧ ((hdC h).drop 2).take 1 = [.int .i64 h.no] ∧ ((hdC h).drop 3).take 32 = bv h.ch ∧ ((hdC h).drop 35).take 2 = [.int .i64 h.R, .int .i64 h.S] := by
 have hl : (bv h.ch).length = 32 := by rw [bv_length, ok.ch.1]
 unfold hdC headC
 refine ⟨rfl, rfl, rfl, ?_, ?_⟩
 · show List.take 32 (bv h.ch ++ [.int .i64 h.R, .int .i64 h.S]) = _
   rw [List.take_append_of_le_length (by omega), List.take_of_length_le (by omega)]
 · show List.take 2 (List.drop 32 (bv h.ch ++ [.int .i64 h.R, .int .i64 h.S])) = _
   rw [List.drop_append_of_le_length (by omega), List.drop_of_length_le (by omega)]
   rfl
theorem keyLits_hd (D : Nat) {h : Hd} (ok : OkH h) : Tryz.prog.keyLits (D + 3) 36 (hdC h) = some (litH h) := by
 obtain ⟨p0, p1, p2, p3, p4⟩ := hdC_parts ok
 have q0 := keyLits_int (D + 1) ok.st
 have q1 := keyLits_int (D + 1) ok.fo
 have q2 := keyLits_int (D + 1) ok.no
 have q3 := keyLits_dig D ok.ch
 have q4 := keyLits_sig D ok.R ok.S
 unfold Program.keyLits
 rw [Tryz.underlying36]
 have hlen : (hdC h).length = Tryz.prog.cellsOf 36 := by rw [hdC_len ok, cellsHd]
 obtain ⟨cs, hcs⟩ : ∃ cs, cs = hdC h := ⟨_, rfl⟩
 rw [← hcs] at p0 p1 p2 p3 p4 hlen ⊢
 match cs, hlen with
 | [], hl => rw [cellsHd] at hl; cases hl
 | c :: r, hl =>
  simp only [hl]
  rw [if_pos ⟨trivial, by kernel_rfl⟩]
  simp only [List.mapM_cons, List.mapM_nil, cellsI, cells35, cellsSg, p0, p1, p2, p3, p4, q0, q1, q2, q3, q4]
  rfl
theorem litH_inj {a b : Hd} (ha : OkH a) (hb : OkH b) (e : litH a = litH b) : eqH a b = true := by
 unfold litH at e
 simp only [List.cons_append, List.nil_append, List.cons.injEq, Lit.int.injEq, true_and] at e
 obtain ⟨e0, e1, e2, e3⟩ := e
 have hl : (digL a.ch).length = (digL b.ch).length := by simp [digL, ha.ch.1, hb.ch.1]
 obtain ⟨e4, e5⟩ := List.append_inj e3 hl
 simp only [List.cons.injEq, Lit.int.injEq, true_and, and_true] at e5
 unfold eqH
 exact decide_eq_true ⟨e0, e1, e2, digL_inj e4, e5.1, e5.2⟩
theorem eqH_litH {a b : Hd} (e : eqH a b = true) : litH a = litH b := by
 unfold eqH at e
 obtain ⟨e0, e1, e2, e3, e4, e5⟩ := of_decide_eq_true e
 unfold litH
 rw [e0, e1, e2, e3, e4, e5]
theorem eqH_refl (a : Hd) : eqH a a = true := by unfold eqH; exact decide_eq_true ⟨rfl, rfl, rfl, rfl, rfl, rfl⟩
theorem formed_hd {h : Hd} (ok : OkH h) : (Value.agg (hdC h).toArray).formed Tryz.prog 36 = true := by
 simp [Value.formed, hdC_len ok, cellsHd]
theorem eq_head {a b : Hd} (ha : OkH a) (hb : OkH b) (w : World) : (Op.equalIn 10000 36 (.agg (hdC a).toArray) (.agg (hdC b).toArray)).run Tryz.prog w = .ok (eqH a b) w := by
 obtain ⟨r, hr, hiff⟩ := run_equalIn_deep (P := Tryz.prog) 9997 3 36 keyTH w 3 3 (.agg (hdC a).toArray) (.agg (hdC b).toArray) (litH a) (litH b) (formed_hd ha) (formed_hd hb)
  (by simpa [Value.cells] using keyLits_hd 0 ha) (by simpa [Value.cells] using keyLits_hd 0 hb)
 have e : r = eqH a b := by
  rw [Bool.eq_iff_iff, hiff]
  exact ⟨litH_inj ha hb, eqH_litH⟩
 rw [← e]
 exact hr
end Go.Proofs.YtnonfdcbnkdmcaaGreatDoor
namespace Go.Proofs.YtnonfdcbnkdmcaaGreatDoor
open Go.RowKit Go.Mem Go.Shelf
open Go.Sto (Ent)
open Go.Vw (Hd Fk fitsB zeroH zeroF zeroV lastH ownsB validB accuse entOk accV accOk accD posH hasH insH)

structure AccB (w : World) (tb : Nat) (rV rH rR rF : List Value) (wz : World) : Prop where
 bV : Blk wz tb 50 rV
 bH : Blk wz (tb + 1) 36 rH
 bR : Blk wz (tb + 1 + 1) 50 rR
 bF : Blk wz (tb + 1 + 1 + 1) 53 rF
 bel : Below w.heap.size w wz
 lo : w.heap.size ≤ tb
section
variable {w wz wq : World} {tb g : Nat} {rV rH rR rF r : List Value}
theorem AccB.below (h : AccB w tb rV rH rR rF wz) (hb : Below wz.heap.size wz wq) : AccB w tb rV rH rR rF wq :=
 ⟨h.bV.below hb h.bV.lt, h.bH.below hb h.bH.lt, h.bR.below hb h.bR.lt, h.bF.below hb h.bF.lt, h.bel.trans (hb.mono h.bel.size), h.lo⟩
theorem AccB.grown (h : AccB w tb rV rH rR rF wz) (hg : wz.grownBy wq none) : AccB w tb rV rH rR rF wq := h.below ((Below.refl _ wz).grown hg (Nat.le_refl _) (fun _ e => by cases e))
theorem AccB.far (h : AccB w tb rV rH rR rF wz) (hg : wz.grownBy wq (some g)) (hne : tb + 1 + 1 + 1 < g) : AccB w tb rV rH rR rF wq :=
 ⟨h.bV.grown hg (fun e => by cases e; omega), h.bH.grown hg (fun e => by cases e; omega), h.bR.grown hg (fun e => by cases e; omega), h.bF.grown hg (fun e => by cases e; omega), below_grown h.bel hg h.bel.size (by have := h.lo; omega), h.lo⟩
end

theorem DS.grown {W W' : World} {g : Nat} {a : Option Addr} {n c : Nat} {l : List (List Nat)} (h : DS W a n c l) (hg : W.grownBy W' (some g)) (hne : 0 < n → ∀ ad, a = some ad → ad.block ≠ g) : DS W' a n c l :=
 ⟨h.len, h.le, h.max, h.nil, fun hn ad e => by
  obtain ⟨b, off, rfl, hlt, hx⟩ := h.cells hn ad e
  exact ⟨b, off, rfl, Nat.lt_of_lt_of_le hlt hg.size, fun i x hi j u hj => (World.cell?_of_block (hg.block b hlt (fun e2 => hne hn _ e (by cases e2; rfl)))).trans (hx i x hi j u hj)⟩, h.ok⟩
theorem HS.grown {W W' : World} {g : Nat} {a : Option Addr} {n c : Nat} {l : List Hd} (h : HS W a n c l) (hg : W.grownBy W' (some g)) (hne : 0 < n → ∀ ad, a = some ad → ad.block ≠ g) : HS W' a n c l := by
 obtain ⟨rows, hR, hO⟩ := h.rs.rows
 exact ⟨⟨h.rs.len, h.rs.sep, rows, hR.grown hg (fun hn ad e e2 => hne hn ad e (by cases e2; rfl)), hO⟩, h.bd⟩
theorem VM.grown {W W' : World} {g : Nat} {v : Vw.V} {da ha : Option Addr} {dn dc hn hc : Nat} (h : VM W v da dn dc ha hn hc) (hg : W.grownBy W' (some g)) (h1 : 0 < dn → ∀ ad, da = some ad → ad.block ≠ g) (h2 : 0 < hn → ∀ ad, ha = some ad → ad.block ≠ g) : VM W' v da dn dc ha hn hc :=
 ⟨h.st, h.fo, h.pub, h.ds.grown hg h1, h.hs.grown hg h2, h.bd⟩
end Go.Proofs.YtnonfdcbnkdmcaaGreatDoor

