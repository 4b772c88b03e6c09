/- a signed head is one that Verify accepts; the heads that a store signs for a list the examples of chapter 32, plainly the references' small functions of chapters 30 and 32: Few, FewEntries, SameDigests; Same, SameFork of equal values the helpers of the laws of chapter 32: entries, digests opening the arguments of the laws of chapter 30; the tables out of the row's condition opening the arguments of the laws of chapter 32: views, entries, proofs -/
import Derived.Test.YtnonfdcbnkdmcaaGreatDoorAl
import Derived.Test.YtnonfdcbnkdmcaaGreatDoorSgn3
import Derived.Test.YtnonfdcbnkdmcaaGreatDoorSgA
import Derived.Test.YtnonfdcbnkdmcaaGreatDoorVwB
import Derived.Test.YtnonfdcbnkdmcaaGreatDoorTag
import Derived.KernelRfl
import Derived.Test.YtnonfdcbnkdmcaaGreatDoorVwC
import Derived.Maps.AppendAt
import Derived.Test.YtnonfdcbnkdmcaaGreatDoorRows
import Derived.Test.YtnonfdcbnkdmcaaGreatDoorSve
import Derived.Test.YtnonfdcbnkdmcaaGreatDoorKey
import Derived.ProofKit
import Derived.LaidMore
import Derived.OpenShut
import Derived.ShutString
import Derived.ChangeOld
import Derived.Below
import Derived.Carry
import Derived.Lib.SmallJoins
import Derived.Deep.Slices
import Derived.Deep.Strs
import Derived.Stop.Joined
namespace Grp
theorem signed_at {b : Nat} (hb : pw b Q = 1) (x k m : Nat) : pw b ((k + m * x % Q) % Q) = pw b k * pw (pw b x) m % P := by
 rw [pw_mod hb, pw_add]
 rw [pw_mod hb (m * x), pw_pw, Nat.mul_comm m x]
theorem ord_pw {b : Nat} (hb : pw b Q = 1) (k : Nat) : pw (pw b k) Q = 1 := by
 rw [pw_pw, Nat.mul_comm]
 exact pw_one_of hb k
theorem pw_zero {q : Nat} (hq : 0 < q) : pw 0 q = 0 := by unfold pw; rw [Nat.zero_pow hq, Nat.zero_mod]
theorem pw_pos {b : Nat} (hb : pw b Q = 1) (k : Nat) : 1 ≤ pw b k := by
 have h := ord_pw hb k
 refine Nat.pos_of_ne_zero fun e => ?_
 rw [e, pw_zero (by decide)] at h
 cases h
theorem ok_pw {b : Nat} (hb : pw b Q = 1) (k : Nat) : ok ((pw b k : Nat) : Int) = true := by
 unfold ok
 have h1 := pw_pos hb k
 have h2 := pw_lt b k
 have hP : P = 4611686018427377339 := rfl
 rw [decide_eq_true_iff, Int.toNat_natCast, ord_pw hb k]
 exact ⟨by omega, by omega, rfl⟩
theorem ok_iff {a : Int} (h : ok a = true) : ∃ n : Nat, a = n ∧ pw n Q = 1 := by
 unfold ok at h
 rw [decide_eq_true_iff] at h
 exact ⟨a.toNat, by omega, h.2.2⟩
theorem exp_at {b k : Nat} (hb : ok (b : Int) = true) (hk : k < 2305843009213688669) : exp (b : Int) (k : Int) = (((pw b k : Nat) : Int), 0) := by
 simp only [exp, hb, if_true, Int.toNat_natCast]
 rw [if_pos (by omega)]
end Grp
namespace Go.Proofs.YtnonfdcbnkdmcaaGreatDoor
theorem hashK_bd (tag msg : List Nat) (l : List Int) : 1 ≤ hashK tag msg l ∧ hashK tag msg l < 2305843009213688669 := by
 have h : ∀ (m : Nat), 0 < m → ∀ (l : List Nat) (n : Nat), n < m → l.foldl (fun n b => (n * 256 + b) % m) n < m := by
  intro m hm l
  induction l with
  | nil => intro n hn; exact hn
  | cons b r ih => intro n _; exact ih _ (Nat.mod_lt _ hm)
 unfold hashK scalar restOf
 generalize Sha.tagged tag _ = t
 have := h 2305843009213688668 (by decide) t 0 (by decide)
 omega
theorem ver_sign {b x : Int} (hb : Grp.ok b = true) (hk : keyOk x = true) (msg : List Nat) :
 ∃ R S, signK b x msg = (R, S, 0) ∧ verB b (pubB b x) msg R S = true := by
 obtain ⟨n, rfl, hn⟩ := Grp.ok_iff hb
 have hx := of_decide_eq_true hk
 obtain ⟨y, rfl⟩ : ∃ y : Nat, x = y := ⟨x.toNat, by omega⟩
 rw [signK_t hk]
 have hkn := hashK_bd [110, 111, 110, 99, 101] msg [(y : Int)]
 have hnk : nonceK (y : Int) msg = ((hashK [110, 111, 110, 99, 101] msg [(y : Int)] : Nat) : Int) := rfl
 rw [hnk]
 generalize hashK [110, 111, 110, 99, 101] msg [(y : Int)] = k at hkn ⊢
 have hR : pubB (n : Int) (k : Int) = ((Grp.pw n k : Nat) : Int) := by unfold pubB; rw [Grp.exp_at hb (by omega)]
 have hp : pubB (n : Int) (y : Int) = ((Grp.pw n y : Nat) : Int) := by unfold pubB; rw [Grp.exp_at hb (by omega)]
 rw [hR, hp]
 have hhb := hashK_bd [115, 105, 103, 110] msg [((Grp.pw n k : Nat) : Int), ((Grp.pw n y : Nat) : Int)]
 have hhk : signH msg ((Grp.pw n k : Nat) : Int) ((Grp.pw n y : Nat) : Int) = ((hashK [115, 105, 103, 110] msg [((Grp.pw n k : Nat) : Int), ((Grp.pw n y : Nat) : Int)] : Nat) : Int) := rfl
 unfold verB
 rw [hhk]
 generalize hashK [115, 105, 103, 110] msg [((Grp.pw n k : Nat) : Int), ((Grp.pw n y : Nat) : Int)] = m at hhb hhk ⊢
 have hm : Fld.mul (m : Int) (y : Int) = (((m * y % Grp.Q : Nat) : Int), 0) := by
  unfold Fld.mul
  rw [if_neg (by simp [Fld.out]; omega)]
  simp [Grp.Q]
 have hmq : m * y % Grp.Q < Grp.Q := Nat.mod_lt _ (by decide)
 have hs : signS (k : Int) (m : Int) (y : Int) = ((((k + m * y % Grp.Q) % Grp.Q : Nat) : Int), 0) := by
  unfold signS
  rw [hm]
  unfold Fld.add
  have hQ : Grp.Q = 2305843009213688669 := rfl
  rw [if_neg (by simp only [Fld.out, Bool.or_eq_true, decide_eq_true_eq]; omega)]
  simp [Grp.Q]
 rw [hs]
 refine ⟨_, _, rfl, ?_⟩
 have hS : (k + m * y % Grp.Q) % Grp.Q < 2305843009213688669 := Nat.mod_lt _ (by decide)
 have hSb : pubB (n : Int) (((k + m * y % Grp.Q) % Grp.Q : Nat) : Int) = ((Grp.pw n ((k + m * y % Grp.Q) % Grp.Q) : Nat) : Int) := by unfold pubB; rw [Grp.exp_at hb hS]
 have hpo := Grp.ok_pw hn y
 have hRo := Grp.ok_pw hn k
 have hpo' : Grp.pw (Grp.pw n y) Grp.Q = 1 := Grp.ord_pw hn y
 rw [if_pos ⟨Grp.chk_t hpo, Grp.chk_t hRo, by unfold Fld.chk; rw [if_neg (by simp only [Fld.out, decide_eq_true_eq]; omega)]⟩, hhk, hSb, Grp.exp_at hpo (by omega)]
 rw [decide_eq_true_iff]
 unfold Grp.mul
 rw [if_pos hRo, if_pos (Grp.ok_pw hpo' m)]
 simp only [Int.toNat_natCast]
 rw [Grp.signed_at hn]

theorem base_ok : Grp.ok 4 = true := by
 unfold Grp.ok
 rw [decide_eq_true_iff]
 exact ⟨by decide, by decide, Grp.base_ord⟩

theorem ver_bd {b p R S : Int} {M : List Nat} (h : verB b p M R S = true) : I64 R ∧ I64 S := by
 unfold verB at h
 split at h
 · rename_i hc
   obtain ⟨_, h2, h3⟩ := hc
   have hR : Grp.ok R = true := by
    cases hk : Grp.ok R with
    | true => rfl
    | false => rw [Grp.chk_f hk] at h2; cases h2
   have hS : Fld.out S = false := by
    unfold Fld.chk at h3
    cases hk : Fld.out S with
    | false => rfl
    | true => rw [hk] at h3; cases h3
   unfold Grp.ok at hR
   unfold Fld.out at hS
   rw [decide_eq_true_iff] at hR
   rw [decide_eq_false_iff_not] at hS
   constructor <;> constructor <;> omega
 · cases h

theorem sign_hd (s : Sto.St) (f : Int) (n : Nat) (ds : List (List Nat)) (hk : keyOk s.priv = true) (hs : 0 ≤ s.id ∧ s.id < 4) (hf : 0 ≤ f ∧ f < 16) (hn : n ≤ 65536) (hl : ds.length = n) :
 ∃ h : Vw.Hd, OkH h ∧ hdC h = signHd s f n ds ∧ Vw.Sg s.id f (pubB 4 s.priv) ds h := by
 obtain ⟨R, S, hsk, hv⟩ := ver_sign base_ok hk (headD s.id f n (chainD f ds))
 obtain ⟨hR, hS⟩ := ver_bd hv
 have hc := chain_len f ds
 have e : signHd s f n ds = headC s.id f n (chainD f ds) R S := by unfold signHd; rw [hsk]
 have hpb := pubB_bd 4 s.priv
 generalize pubB 4 s.priv = p at *
 have hb : headB p s.id f n (chainD f ds) R S = true := by
  unfold headB
  rw [hv, show Sto.folderB f = true from decide_eq_true hf, decide_eq_true hs.1, decide_eq_true hs.2, decide_eq_true (by omega : (0 : Int) ≤ n), decide_eq_true (by omega : (n : Int) ≤ 65536)]
  rfl
 exact ⟨⟨s.id, f, n, chainD f ds, R, S⟩, ⟨⟨by show _ ≤ s.id; omega, by show s.id ≤ _; omega⟩, ⟨by show _ ≤ f; omega, by show f ≤ _; omega⟩, ⟨by show _ ≤ (n : Int); omega, by show (n : Int) ≤ _; omega⟩, hR, hS, hc⟩, e.symm, rfl, rfl, by rw [hl], rfl, hb⟩
end Go.Proofs.YtnonfdcbnkdmcaaGreatDoor
namespace Go.Vw
open Go.Proofs.YtnonfdcbnkdmcaaGreatDoor (chainD headB entryD octets pubB verB)
open Go.Sto (Ent)

def entT (s : ByteArray) : Ent := ⟨1, entryD 1 (octets s), octets s, false⟩
def tA : ByteArray := ⟨#[97]⟩
def tB : ByteArray := ⟨#[98]⟩
def tC : ByteArray := ⟨#[99]⟩
def one : List Ent := [tA].map entT
def two : List Ent := [tA, tB].map entT
def odd : List Ent := [tA, tC].map entT
section
variable {p : Int} {n h g k : Hd}
end
end Go.Vw
namespace Go.Proofs.YtnonfdcbnkdmcaaGreatDoor
open Go.RowKit Go.Mem Go.Shelf
open Go.Sto (Ent)
open Go.Vw (Hd Fk eqH zeroF)

structure OkR (e : Ent) : Prop where
 dig : e.dig.length = 32
 lt : ∀ u ∈ e.dig, u < 256
 lo : -9223372036854775808 ≤ e.kind
 hi : e.kind ≤ 9223372036854775807
def EVr (w : World) (e : Ent) (r : List Value) : Prop := OkR e ∧ ∃ a n c, r = entC e a n c ∧ BW w a n c e.data
abbrev ESr (w : World) (a : Option Addr) (n c : Nat) (l : List Ent) : Prop := RS 35 EVr (fun _ => True) w a n c l
theorem ESr.below {w w' : World} {a : Option Addr} {n c : Nat} {l : List Ent} (h : ESr w a n c l) (hb : Below w.heap.size w w') : ESr w' a n c l := h.keep (.below hb) fun _ _ ⟨ho, a, n, c, er, hB⟩ => ⟨ho, a, n, c, er, hB.below hb⟩
theorem ESr.es {w : World} {a : Option Addr} {n c : Nat} {l : List Ent} (h : ESr w a n c l) (hn : n ≤ 100000) (hd : ∀ e ∈ l, e.data.length ≤ 1000000) : ES (fun _ => True) w a n c l := by
 refine ⟨⟨h.len, h.sep, ?_⟩, hn⟩
 obtain ⟨rows, hR, hO⟩ := h.rows
 refine ⟨rows, hR, hO.len, hO.size, fun i e r he hr => ?_⟩
 obtain ⟨ho, a, n, c, er, hB⟩ := hO.each i e r he hr
 exact ⟨⟨ho.dig, ho.lt, ho.lo, ho.hi, hd e (List.mem_of_getElem? he)⟩, a, n, c, er, hB.bk⟩

def fewE (l : List Ent) : Bool := l.all (fun e => decide (e.data.length ≤ 9000))
def few30 (l : List Ent) : Bool := fewE l && decide (l.length ≤ 14)

set_option maxRecDepth 20000 in
set_option maxHeartbeats 1000000 in
theorem fewE30_any (a : Option Addr) (n c : Nat) (l : List Ent) (w : World) (H : ESr w a n c l) :
 Calls Tryz.prog 56 #[.slice a n c] w fun e w' => e = .returned (.bool (few30 l)) ∧ w' = w := by
 have hlen := H.len
 have hmx := H.max
 have hle := H.le
 have n63 : (n : Int) ≤ 9223372036854775807 := by omega
 have H' := Lib.hid H
 clear H hmx hle
 obtain ⟨X, hX⟩ : ∃ X, X = fun (e : Ending) (w' : World) => e = .returned (.bool (few30 l)) ∧ w' = w := ⟨_, rfl⟩
 have hfin : Hid (∀ b, few30 l = b → X (.returned (.bool b)) w) := fun b hb => by rw [hX, hb]; exact ⟨rfl, rfl⟩
 rw [← hX]
 clear hX
 go_enter Tryz.func56, Tryz.ntmps56
 go_wp2_with fail
 go_loop [3] (fun i => ∃ k : Nat, k ≤ n ∧ i = .int .i64 k ∧ Hid (∀ e ∈ l.take k, e.data.length ≤ 9000)) (fun i => n - (intOf i).toNat)
 case atStart => exact ⟨0, Nat.zero_le _, rfl, fun _ h => by cases h⟩
 case round =>
  obtain ⟨k, hk, rfl, hall⟩ := hrel
  by_cases hlt : k < n
  · obtain ⟨x, hx⟩ : ∃ x, l[k]? = some x := ⟨_, List.getElem?_eq_getElem (by omega)⟩
    obtain ⟨b, off, r, rfl, hbl, _, ⟨ho, da, dn, dc, er, hB⟩, hrl, hrg⟩ := H'.out.get hx
    have hc : w.cell? ⟨b, off + k * 35 + 33, none⟩ = some (.slice da dn dc) := by rw [er] at hrg; exact hrg 33 _ (entC_data ho.dig _ _ _)
    have hdl := hB.len
    have k0 : (0 : Int) ≤ (k : Int) := by omega
    have k1 : (k : Int) < (n : Int) := by omega
    clear er hrg hrl ho hB
    by_cases hd : dn ≤ 9000
    · have g1 : decide ((9000 : Int) < (dn : Int)) = false := decide_eq_false (by omega)
      have hall2 : Hid (∀ e ∈ l.take (k + 1), e.data.length ≤ 9000) := fun e he => by
       rw [List.take_succ_eq_append_getElem (by omega), (List.getElem?_eq_some_iff.1 hx).2] at he
       rcases List.mem_append.1 he with he | he
       · exact hall.out e he
       · rw [List.mem_singleton] at he; rw [he, hdl]; exact hd
      clear hx hd hdl
      go_wp2_with fail
      go_round
      case rel => exact ⟨k + 1, by omega, by go_num, hall2⟩
      case measure => simp [intOf]; omega
    · have g1 : decide ((9000 : Int) < (dn : Int)) = true := decide_eq_true (by omega)
      have hf := Lib.hid (hfin.out false (by
       have : fewE l = false := List.all_eq_false.2 ⟨x, List.mem_of_getElem? hx, by rw [hdl]; simpa using hd⟩
       unfold few30; rw [this]; rfl))
      clear hx hd hdl
      go_wp2_with fail
      exact hf.out
  · obtain rfl : k = n := by omega
    have hA : fewE l = true := List.all_eq_true.2 fun e he => decide_eq_true (hall.out e (by rw [List.take_of_length_le (by omega)]; exact he))
    obtain ⟨q, hq⟩ : ∃ q, Hid (decide ((k : Int) ≤ 14) = q) := ⟨_, rfl⟩
    have hf := Lib.hid (hfin.out q (by unfold few30; rw [hA, hlen, ← hq.out, Bool.true_and]; exact decide_eq_decide.2 (by omega)))
    have g1 := hq.out
    clear hA hall hq
    go_wp2_with fail
    exact hf.out

end Go.Proofs.YtnonfdcbnkdmcaaGreatDoor
namespace Go
variable {P : Program}
end Go
namespace Go.Mem
open Go.RowKit
variable {P : Program}
end Go.Mem
namespace Go.Proofs.YtnonfdcbnkdmcaaGreatDoor
open Go.RowKit Go.Mem Go.Shelf
open Go.Sto (Ent)
open Go.Vw (entT)

def OwnE (w0 W : World) (v : Value) (l : List Ent) : Prop := ∃ rows, W.ownsRow w0.heap.size 75 35 v l.length rows.flatten ∧ RowsOf 35 (EV (fun b => w0.heap.size ≤ b ∧ v.ownBlock ≠ some b) W) l rows
theorem OwnE.es {w0 W : World} {v : Value} {l : List Ent} (h : OwnE w0 W v l) (hn : l.length ≤ 100000) : ∃ a c, v = .slice a l.length c ∧ ES (fun b => w0.heap.size ≤ b) W a l.length c l := by
 obtain ⟨rows, ho, hR⟩ := h
 obtain ⟨a, c, rfl, hr, h3⟩ := Sl.of_owns ho
 exact ⟨a, c, rfl, ⟨rfl, fun _ ad e => (h3 ad e).1, rows, hr, hR.imp fun e r ⟨h1, a, n, c, h2, h3⟩ => ⟨h1, a, n, c, h2, h3.imp fun b _ h => h.1⟩⟩, hn⟩
theorem OwnE.below {w0 W W' : World} {v : Value} {l : List Ent} (h : OwnE w0 W v l) (hb : Below W.heap.size W W') : OwnE w0 W' v l := by
 obtain ⟨rows, ho, hR⟩ := h
 refine ⟨rows, ho.kept (grown_of_below hb none) (by rcases ho.2 with ⟨e, _⟩ | ⟨g, cap, cur, e, _⟩ <;> rw [e] <;> simp [Value.ownBlock]), hR.imp fun e r ⟨h1, a, n, c, h2, h3⟩ => ⟨h1, a, n, c, h2, h3.keep (Keeps.below hb)⟩⟩
def TxS (w : World) (a : Option Addr) (n c : Nat) (l : List ByteArray) : Prop := RS 1 (fun _ s r => r = [.string s]) (fun _ => True) w a n c l
theorem TxS.below {w w' : World} {a : Option Addr} {n c : Nat} {l : List ByteArray} (h : TxS w a n c l) (hb : Below w.heap.size w w') : TxS w' a n c l := RS.keep h (.below hb) fun _ _ hr => hr
theorem TxS.get {w : World} {a : Option Addr} {n c k : Nat} {l : List ByteArray} {s : ByteArray} (h : TxS w a n c l) (hs : l[k]? = some s) : ∃ b off, a = some ⟨b, off, none⟩ ∧ b < w.heap.size ∧ w.cell? ⟨b, off + k, none⟩ = some (.string s) := by
 obtain ⟨b, off, r, ea, hb, _, rfl, _, hrg⟩ := RS.get h hs
 have := hrg 0 _ rfl
 rw [Nat.mul_one, Nat.add_zero] at this
 exact ⟨b, off, ea, hb, this⟩
end Go.Proofs.YtnonfdcbnkdmcaaGreatDoor
namespace Go.Proofs.YtnonfdcbnkdmcaaGreatDoor
open Go.ChangeShapes Go.WideShapes Go.ChangeAt Go.RowKit Go.Joins Go.Mem

theorem own : ownKnob Tryz.prog.godebug = none := by kernel_rfl
theorem laidOut : laidOutB Tryz.prog = true := by kernel_rfl
theorem cellsU8 : Tryz.prog.cellsOf 5 = 1 := by kernel_rfl
theorem cellsU32 : Tryz.prog.cellsOf 209 = 1 := by kernel_rfl
theorem cellsInt : Tryz.prog.cellsOf 3 = 1 := by kernel_rfl
theorem wf_i64 {n : Int} (h : (Lit.int .i64 n).wf = true) : I64 n := by
 have := bounds_i64 h
 unfold I64; omega

section
variable {H : Type} {enc : TypeId × Value → H} {W : World} {spare held : Bool}

theorem one_at {cs : List Value} {i : Nat} {v : Value} (h : (cs.drop (i * 1)).take 1 = [v]) : cs[i]? = some v := by
 rw [Nat.mul_one] at h
 have := congrArg (·[0]?) h
 simpa using this

theorem open_digest {fuel : Nat} {cs : List Value} {x : DataW H × List MemPlace} (h : DataW.trod enc Tryz.prog W 0 (fun _ => true) true fuel 32 cs = some x) :
 ∃ D : List Nat, cs = bv D ∧ D.length = 32 ∧ ∀ u ∈ D, u < 256 := by
 obtain ⟨xs, m, _, _, hl, hn, he⟩ := DataW.trod_array Tryz.underlying32 h
 rw [cells35] at hl
 rw [cellsU8] at he
 have each : ∀ i, i < 32 → ∃ y : Nat, cs[i]? = some (.int .u8 (y : Int)) ∧ y < 256 := by
  intro i hi
  have h1 := he i hi
  rw [List.getElem?_eq_getElem (by omega)] at h1
  obtain ⟨a, e0, _, w0⟩ := DataW.trod_int Tryz.underlying5 h1
  have hb : 0 ≤ a ∧ a < 256 := by
   have h2 : IntKind.u8.min ≤ a ∧ a ≤ IntKind.u8.max := by simpa [Lit.wf] using w0
   have e1 : IntKind.u8.min = 0 := rfl
   have e2 : IntKind.u8.max = 255 := rfl
   omega
  exact ⟨a.toNat, by rw [one_at e0, Int.toNat_of_nonneg hb.1], by omega⟩
 obtain ⟨f, hf⟩ := Deep.choose_lt each
 refine ⟨(List.range 32).map f, ?_, by simp, fun u hu => ?_⟩
 · apply List.ext_getElem?
   intro i
   by_cases hi : i < 32
   · rw [(hf i hi).1]
     simp [bv, hi]
   · rw [List.getElem?_eq_none (by omega), List.getElem?_eq_none (by simp [bv]; omega)]
 · obtain ⟨i, hi, rfl⟩ := List.mem_map.1 hu
   exact (hf i (List.mem_range.1 hi)).2

theorem open_int1 {fuel : Nat} {cs : List Value} {x : DataW H × List MemPlace} (h : DataW.trod enc Tryz.prog W 0 (fun _ => true) true fuel 3 cs = some x) : ∃ a : Int, cs = [.int .i64 a] ∧ I64 a := by
 obtain ⟨a, e, _, w⟩ := DataW.trod_int Tryz.underlying3 h
 exact ⟨a, e, wf_i64 w⟩

theorem drop_parts (cs : List Value) (i k j : Nat) (hj : i + k = j) : cs.drop i = (cs.drop i).take k ++ cs.drop j := by
 rw [← hj, ← List.drop_drop, List.take_append_drop]

theorem trod_u32s {t : TypeId} {k fuel : Nat} {l : List Nat} {cs : List Value} {p : List MemPlace} (ht : Tryz.prog.underlying t = some (.array k 209)) (hk : l.length = k)
 (h : DataW.trod enc Tryz.prog W 0 (fun _ => spare) held fuel t cs = some (.agg (l.map fun (x : Nat) => .lit (.int .u32 (x : Int))), p)) : ∀ (i : Nat) x, l[i]? = some x → cs[i]? = some (.int .u32 ((x : Nat) : Int)) := by
 obtain ⟨xs, m, _, hx, hl, hn, he⟩ := DataW.trod_array ht h
 rw [cellsU32] at he
 intro i x hi
 have hik := (List.getElem?_eq_some_iff.1 hi).1
 have h1 := he i (by omega)
 rw [List.getElem?_eq_getElem (by omega)] at h1
 obtain ⟨a, e0, e1, _⟩ := DataW.trod_int Tryz.underlying209 h1
 rw [one_at e0]
 simp only [Prod.mk.injEq, DataW.agg.injEq] at hx
 have h2 := congrArg (·[i]?) hx.1
 simp only [List.getElem?_map, hi, Option.map_some] at h2
 rw [List.getElem?_eq_getElem (by omega)] at h2
 simp only [Option.map_some, Option.some.injEq] at h2
 rw [e1] at h2
 simp only [DataW.lit.injEq, Lit.int.injEq, true_and] at h2
 rw [h2]
end

theorem gStart : Tryz.prog.globalNamed "chartroom/digest.start" = some 0 := by kernel_rfl
theorem gNums : Tryz.prog.globalNamed "chartroom/digest.numbers" = some 1 := by kernel_rfl
theorem datStart {H : Type} : (Rows.laid_chartroom_digest_start : DataW H) = .agg ((stv Sha.start).map fun (x : Nat) => .lit (.int .u32 (x : Int))) := rfl
theorem datNums {H : Type} : (Rows.laid_chartroom_digest_numbers : DataW H) = .agg (Sha.K.map fun (x : Nat) => .lit (.int .u32 (x : Int))) := rfl
abbrev laid2 {H : Type} : List (String × DataW H) := [("chartroom/digest.start", Rows.laid_chartroom_digest_start), ("chartroom/digest.numbers", Rows.laid_chartroom_digest_numbers)]

theorem door_met (os : Os) (args : Array Value) : laidMetH Tryz.prog laid2 ((World.doorLaid Tryz.prog 400 os).forCall (fun _ _ => 0) ⟨#[], args, []⟩).memory :=
 laidMetH_of_parts3 (fuel := 8) (laidMet_of_run' 8 (by kernel_rfl) (by kernel_rfl)) (by kernel_rfl) (by kernel_rfl)

theorem tabs_of_laid {W : World} (h : laidMetH Tryz.prog laid2 W) : Tabs W := by
 rw [MakeChecks.laidMetH_plain _ _ _ (by kernel_rfl)] at h
 obtain ⟨ps, ⟨g0, t0, cs0, f0, p0, q0, hg0, ht0, hv0, hd0, ⟨g1, t1, cs1, f1, p1, q1, hg1, ht1, hv1, hd1, _, _⟩, _⟩, _, _⟩ := h
 obtain rfl := Option.some.inj (gStart.symm.trans hg0)
 obtain rfl := Option.some.inj (gNums.symm.trans hg1)
 obtain rfl := Option.some.inj ((show (Tryz.prog.globals[0]?).map (·.type) = some 210 by kernel_rfl).symm.trans ht0)
 obtain rfl := Option.some.inj ((show (Tryz.prog.globals[1]?).map (·.type) = some 232 by kernel_rfl).symm.trans ht1)
 rw [datStart] at hd0
 rw [datNums] at hd1
 have s0 := trod_u32s Tryz.underlying210 rfl hd0
 have s1 := trod_u32s Tryz.underlying232 rfl hd1
 have c1 : ∀ (i : Nat) x, Sha.K[i]? = some x → W.cell? ⟨1, i, none⟩ = some (.int .u32 ((x : Nat) : Int)) := fun i x hx => by
  rw [World.var?_cell hg1 hv1 i]
  have := s1 i x hx
  simpa using this
 refine ⟨⟨?_, c1⟩, fun i x hx => ?_⟩
 · exact World.block_lt_of_cell? W _ (c1 0 _ rfl)
 · rw [World.var?_cell hg0 hv0 i]
   have := s0 i x hx
   simpa using this
end Go.Proofs.YtnonfdcbnkdmcaaGreatDoor
namespace Go.Proofs.YtnonfdcbnkdmcaaGreatDoor
open Go.ChangeShapes Go.WideShapes Go.ChangeAt Go.RowKit Go.Joins Go.Mem
open Go.Sto (Ent)
open Go.Vw (Hd Fk)
theorem cellsSl : Tryz.prog.cellsOf 71 = 1 := by kernel_rfl
theorem cellsBo : Tryz.prog.cellsOf 4 = 1 := by kernel_rfl
theorem cellsEnt : Tryz.prog.cellsOf 75 = 35 := by kernel_rfl
section
variable {H : Type} {enc : TypeId × Value → H} {W : World}
theorem open_u8 {fuel : Nat} {cs : List Value} {x : DataW H × List MemPlace} (h : DataW.trod enc Tryz.prog W 0 (fun _ => true) true fuel 5 cs = some x) : ∃ y : Nat, cs = [.int .u8 (y : Int)] ∧ y < 256 := by
 obtain ⟨a, e0, _, w0⟩ := DataW.trod_int Tryz.underlying5 h
 have hb : 0 ≤ a ∧ a < 256 := by
  have h2 : IntKind.u8.min ≤ a ∧ a ≤ IntKind.u8.max := by simpa [Lit.wf] using w0
  have e1 : IntKind.u8.min = 0 := rfl
  have e2 : IntKind.u8.max = 255 := rfl
  omega
 exact ⟨a.toNat, by rw [e0, Int.toNat_of_nonneg hb.1], by omega⟩
theorem open_bytes' {fuel : Nat} {cs : List Value} {x : DataW H × List MemPlace} (h : DataW.trod enc Tryz.prog W 0 (fun _ => true) true fuel 71 cs = some x) : ∃ a n c l, cs = [.slice a n c] ∧ BW W a n c l := by
 rcases Deep.open_slice Tryz.underlying71 h with ⟨rfl, _⟩ | ⟨ad, len, cap, m, k, D, Pl, rfl, hb, hl, hm, hmm, _, hx⟩
 · exact ⟨none, 0, 0, [], rfl, .inl ⟨rfl, Nat.le_refl _, by decide, fun _ => ⟨rfl, rfl⟩, (fun ad e => by cases e), (fun x hx => by cases hx)⟩⟩
 · simp at hmm
   subst hmm
   rw [cellsU8] at hx
   by_cases h0 : m = 0
   · subst h0
     obtain rfl : len = 0 := by omega
     exact ⟨some ad, 0, 0, [], rfl, .inr ⟨rfl, rfl, rfl, ad, rfl⟩⟩
   · have each : ∀ i, i < m → ∃ y : Nat, W.cell? (ad.add i) = some (.int .u8 (y : Int)) ∧ y < 256 := by
      intro i hi
      obtain ⟨cs', h1, h2⟩ := hx i hi
      rw [Nat.mul_one] at h1
      obtain ⟨_, hlen, hcell⟩ := World.cells?_some h1
      obtain ⟨y, rfl, hy⟩ := open_u8 h2
      have e0 := hcell 0 (by omega)
      have z : ∀ q : Addr, q.add 0 = q := fun q => by unfold Addr.add; cases q; simp
      rw [z] at e0
      exact ⟨y, by simpa using e0, hy⟩
     obtain ⟨T, hT⟩ := Deep.choose_lt each
     obtain ⟨b, off, spot⟩ := ad
     have c0 := (hT 0 (by omega)).1
     have hspot : spot = none := by simpa [Addr.add] using World.cell?_spot c0
     subst hspot
     have hbl : b < W.heap.size := World.block_lt_of_cell? W _ (by simpa [Addr.add] using c0)
     refine ⟨_, len, m, (List.range len).map T, rfl, .inl ⟨by simp, hl, by unfold maxLen at hm; omega, (fun e => by cases e), fun ad e => ?_, fun y hy => ?_⟩⟩
     · cases e
       refine ⟨b, off, rfl, hbl, fun i y hy => ?_⟩
       have hi : i < len := by have := (List.getElem?_eq_some_iff.1 hy).1; simpa using this
       have hti : y = T i := by rw [List.getElem?_map, List.getElem?_range hi] at hy; simpa using hy.symm
       subst hti
       have g0 := (hT i (by omega)).1
       rwa [Addr.add_lit] at g0
     · obtain ⟨i, hi, rfl⟩ := List.mem_map.1 hy
       exact (hT i (by have := List.mem_range.1 hi; omega)).2

theorem open_rows {α : Type} (d0 : α) {s : Nat} {R : World → α → List Value → Prop} {t e : TypeId} (ht : Tryz.prog.underlying t = some (.slice e)) (hs : Tryz.prog.cellsOf e = s) (h0 : 0 < s)
 (hel : ∀ {fuel : Nat} {cs : List Value} {x : DataW H × List MemPlace}, DataW.trod enc Tryz.prog W 0 (fun _ => true) true fuel e cs = some x → ∃ y, R W y cs ∧ cs.length = s)
 {fuel : Nat} {cs : List Value} {x : DataW H × List MemPlace} (h : DataW.trod enc Tryz.prog W 0 (fun _ => true) true fuel t cs = some x) : ∃ a n c l, cs = [.slice a n c] ∧ RS s R (fun _ => True) W a n c l := by
 rcases Deep.open_slice ht h with ⟨rfl, _⟩ | ⟨ad, len, cap, m, k, D, Pl, rfl, hb, hl, hm, hmm, _, hx⟩
 · exact ⟨none, 0, 0, [], rfl, RS.nil0 _ _ _⟩
 · simp at hmm
   subst hmm
   rw [hs] at hx
   have each : ∀ i, i < m → ∃ q : α × List Value, (∀ j u, q.2[j]? = some u → W.cell? ((ad.add (i * s)).add j) = some u) ∧ R W q.1 q.2 ∧ q.2.length = s := by
    intro i hi
    obtain ⟨cs', h1, h2⟩ := hx i hi
    obtain ⟨_, hlen, hcell⟩ := World.cells?_some h1
    obtain ⟨y, hy, hl4⟩ := hel h2
    refine ⟨(y, cs'), fun j u hu => ?_, hy, hl4⟩
    have hj := (List.getElem?_eq_some_iff.1 hu).1
    have := hcell j (by rw [← hlen]; exact hj)
    rw [this]
    simpa using hu
   have : Inhabited (α × List Value) := ⟨(d0, [])⟩
   obtain ⟨T, hT⟩ := Deep.choose_lt each
   have hrs : ∀ r ∈ (List.range len).map (fun i => (T i).2), r.length = s := fun r hr => by
    obtain ⟨i, hi, rfl⟩ := List.mem_map.1 hr
    exact (hT i (by have := List.mem_range.1 hi; omega)).2.2
   refine ⟨_, len, m, (List.range len).map (fun i => (T i).1), rfl, by simp, fun _ _ _ => trivial, (List.range len).map (fun i => (T i).2), ⟨?_, hl, hm, (fun e => by cases e), fun hn => ?_⟩, ⟨by simp, hrs, fun i e r he hr => ?_⟩⟩
   · rw [flat_len hrs]; simp
   · obtain ⟨b, off, spot⟩ := ad
     have hrow : ∀ i, i < len → ∀ j, j < s → ∃ u, (T i).2[j]? = some u := fun i hi j hj => ⟨_, List.getElem?_eq_getElem (by rw [(hT i (by omega)).2.2]; exact hj)⟩
     obtain ⟨u0, hu0⟩ := hrow 0 hn 0 h0
     have c0 := (hT 0 (by omega)).1 0 u0 hu0
     have hspot : spot = none := by simpa [Addr.add] using World.cell?_spot c0
     subst hspot
     have hbl : b < W.heap.size := World.block_lt_of_cell? W _ (by simpa [Addr.add] using c0)
     refine ⟨b, off, rfl, hbl, fun j u hj => ?_⟩
     have hjl := (List.getElem?_eq_some_iff.1 hj).1
     rw [flat_len hrs] at hjl
     simp only [List.length_map, List.length_range] at hjl
     have hi : j / s < len := Nat.div_lt_of_lt_mul (by rw [Nat.mul_comm]; exact hjl)
     have hjm := Nat.mod_lt j h0
     have hdm : j / s * s + j % s = j := by rw [Nat.mul_comm]; exact Nat.div_add_mod j s
     obtain ⟨v, hv⟩ := hrow (j / s) hi (j % s) hjm
     have hg := flat_get (i := j / s) (j := j % s) hrs (r := (T (j / s)).2) (by simp [hi]) hv
     rw [hdm, hj] at hg
     cases hg
     have := (hT (j / s) (by omega)).1 _ _ hv
     rw [Addr.add_lit, Addr.add_lit] at this
     rw [show off + j = off + j / s * s + j % s by omega]
     exact this
   · have hi : i < len := by have := (List.getElem?_eq_some_iff.1 he).1; simpa using this
     rw [List.getElem?_map, List.getElem?_range hi] at he hr
     simp at he hr
     subst he hr
     exact (hT i (by omega)).2.1

abbrev HSr (w : World) (a : Option Addr) (n c : Nat) (l : List Hd) : Prop := RS 37 HV (fun _ => True) w a n c l
theorem open_ent {fuel : Nat} {cs : List Value} {x : DataW H × List MemPlace} (h : DataW.trod enc Tryz.prog W 0 (fun _ => true) true fuel 75 cs = some x) : ∃ e : Ent, EVr W e cs ∧ cs.length = 35 := by
 obtain ⟨xs, n, _, rfl, hl, hlen, hf⟩ := DataW.trod_struct Tryz.underlying75 h
 rw [cellsEnt] at hl
 match xs, hlen with
 | [y0, y1, y2, y3], _ =>
  have h0 : DataW.trod enc Tryz.prog W 0 (fun _ => true) true n 3 ((cs.drop 0).take (Tryz.prog.cellsOf 3)) = some y0 := hf 0 _ rfl
  rw [cellsInt] at h0
  have h1 : DataW.trod enc Tryz.prog W 0 (fun _ => true) true n 32 ((cs.drop 1).take (Tryz.prog.cellsOf 32)) = some y1 := hf 1 _ rfl
  rw [cells35] at h1
  have h2 : DataW.trod enc Tryz.prog W 0 (fun _ => true) true n 71 ((cs.drop 33).take (Tryz.prog.cellsOf 71)) = some y2 := hf 2 _ rfl
  rw [cellsSl] at h2
  have h3 : DataW.trod enc Tryz.prog W 0 (fun _ => true) true n 4 ((cs.drop 34).take (Tryz.prog.cellsOf 4)) = some y3 := hf 3 _ rfl
  rw [cellsBo] at h3
  obtain ⟨ki, e0, i0⟩ := open_int1 h0
  obtain ⟨D, e1, hD, hu⟩ := open_digest h1
  obtain ⟨a, dn, dc, data, e2, hB⟩ := open_bytes' h2
  obtain ⟨g, e3, _⟩ := DataW.trod_bool Tryz.underlying4 h3
  have q35 : cs.drop 35 = [] := List.drop_eq_nil_of_le (by omega)
  have q34 : cs.drop 34 = [.bool g] := by rw [drop_parts cs 34 1 35 rfl, e3, q35]; rfl
  have q33 : cs.drop 33 = [.slice a dn dc, .bool g] := by rw [drop_parts cs 33 1 34 rfl, e2, q34]; rfl
  have q1 : cs.drop 1 = bv D ++ [.slice a dn dc, .bool g] := by rw [drop_parts cs 1 32 33 rfl, e1, q33]
  have q0 : cs.drop 0 = [.int .i64 ki] ++ (bv D ++ [.slice a dn dc, .bool g]) := by rw [drop_parts cs 0 1 1 rfl, e0, q1]
  exact ⟨⟨ki, D, data, g⟩, ⟨⟨hD, hu, i0.1, i0.2⟩, a, dn, dc, q0, hB⟩, hl⟩
theorem open_ents {fuel : Nat} {cs : List Value} {x : DataW H × List MemPlace} (h : DataW.trod enc Tryz.prog W 0 (fun _ => true) true fuel 30 cs = some x) : ∃ a n c l, cs = [.slice a n c] ∧ ESr W a n c l :=
 open_rows (R := EVr) ⟨0, [], [], false⟩ Tryz.underlying30 cellsEnt (by decide) open_ent h
structure VMr (w : World) (v : Vw.V) (da : Option Addr) (dn dc : Nat) (ha : Option Addr) (hn hc : Nat) : Prop where
 st : I64 v.st
 fo : I64 v.fo
 pub : I64 v.pub
 ds : DS w da dn dc v.ds
 hs : HSr w ha hn hc v.hs
theorem VMr.below {w w' : World} {v : Vw.V} {da ha : Option Addr} {dn dc hn hc : Nat} (h : VMr w v da dn dc ha hn hc) (hb : Below w.heap.size w w') : VMr w' v da dn dc ha hn hc :=
 ⟨h.st, h.fo, h.pub, h.ds.below hb, h.hs.keep (.below hb) fun _ _ hr => hr⟩
theorem VMr.vm {w : World} {v : Vw.V} {da ha : Option Addr} {dn dc hn hc : Nat} (h : VMr w v da dn dc ha hn hc) (h1 : dn ≤ 100000) (h2 : hn ≤ 100000) : VM w v da dn dc ha hn hc := ⟨h.st, h.fo, h.pub, h.ds, ⟨h.hs, h2⟩, h1⟩
end
end Go.Proofs.YtnonfdcbnkdmcaaGreatDoor

