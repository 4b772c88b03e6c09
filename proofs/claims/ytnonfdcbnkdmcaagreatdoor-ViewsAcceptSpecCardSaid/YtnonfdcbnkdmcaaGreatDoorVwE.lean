/- a signed head is one that Verify accepts; the heads that a store signs for a list the examples of chapter 32, plainly the references' small functions of chapters 30 and 32: Few, FewEntries, SameDigests; Same, SameFork of equal values the helpers of the laws of chapter 32: entries, digests opening the arguments of the laws of chapter 30; the tables out of the row's condition opening the arguments of the laws of chapter 32: views, entries, proofs -/
import Derived.Test.YtnonfdcbnkdmcaaGreatDoorAl
import Derived.Test.YtnonfdcbnkdmcaaGreatDoorSgn3
import Derived.Test.YtnonfdcbnkdmcaaGreatDoorSgA
import Derived.Test.YtnonfdcbnkdmcaaGreatDoorVwB
import Derived.Test.YtnonfdcbnkdmcaaGreatDoorTag
import Derived.KernelRfl
import Derived.Test.YtnonfdcbnkdmcaaGreatDoorVwC
import Derived.Maps.AppendAt
import Derived.Test.YtnonfdcbnkdmcaaGreatDoorRows
import Derived.Test.YtnonfdcbnkdmcaaGreatDoorSve
import Derived.Test.YtnonfdcbnkdmcaaGreatDoorKey
import Derived.ProofKit
import Derived.LaidMore
import Derived.OpenShut
import Derived.ShutString
import Derived.ChangeOld
import Derived.Below
import Derived.Carry
import Derived.Lib.SmallJoins
import Derived.Deep.Slices
import Derived.Deep.Strs
import Derived.Stop.Joined
namespace Grp
theorem signed_at {b : Nat} (hb : pw b Q = 1) (x k m : Nat) : pw b ((k + m * x % Q) % Q) = pw b k * pw (pw b x) m % P := by
 rw [pw_mod hb, pw_add]
 rw [pw_mod hb (m * x), pw_pw, Nat.mul_comm m x]
theorem ord_pw {b : Nat} (hb : pw b Q = 1) (k : Nat) : pw (pw b k) Q = 1 := by
 rw [pw_pw, Nat.mul_comm]
 exact pw_one_of hb k
theorem pw_zero {q : Nat} (hq : 0 < q) : pw 0 q = 0 := by unfold pw; rw [Nat.zero_pow hq, Nat.zero_mod]
theorem pw_pos {b : Nat} (hb : pw b Q = 1) (k : Nat) : 1 ≤ pw b k := by
 have h := ord_pw hb k
 refine Nat.pos_of_ne_zero fun e => ?_
 rw [e, pw_zero (by decide)] at h
 cases h
theorem ok_pw {b : Nat} (hb : pw b Q = 1) (k : Nat) : ok ((pw b k : Nat) : Int) = true := by
 unfold ok
 have h1 := pw_pos hb k
 have h2 := pw_lt b k
 have hP : P = 4611686018427377339 := rfl
 rw [decide_eq_true_iff, Int.toNat_natCast, ord_pw hb k]
 exact ⟨by omega, by omega, rfl⟩
theorem ok_iff {a : Int} (h : ok a = true) : ∃ n : Nat, a = n ∧ pw n Q = 1 := by
 unfold ok at h
 rw [decide_eq_true_iff] at h
 exact ⟨a.toNat, by omega, h.2.2⟩
theorem exp_at {b k : Nat} (hb : ok (b : Int) = true) (hk : k < 2305843009213688669) : exp (b : Int) (k : Int) = (((pw b k : Nat) : Int), 0) := by
 simp only [exp, hb, if_true, Int.toNat_natCast]
 rw [if_pos (by omega)]
end Grp
namespace Go.Proofs.YtnonfdcbnkdmcaaGreatDoor
theorem hashK_bd (tag msg : List Nat) (l : List Int) : 1 ≤ hashK tag msg l ∧ hashK tag msg l < 2305843009213688669 := by
 have h : ∀ (m : Nat), 0 < m → ∀ (l : List Nat) (n : Nat), n < m → l.foldl (fun n b => (n * 256 + b) % m) n < m := by
  intro m hm l
  induction l with
  | nil => intro n hn; exact hn
  | cons b r ih => intro n _; exact ih _ (Nat.mod_lt _ hm)
 unfold hashK scalar restOf
 generalize Sha.tagged tag _ = t
 have := h 2305843009213688668 (by decide) t 0 (by decide)
 omega
theorem ver_sign {b x : Int} (hb : Grp.ok b = true) (hk : keyOk x = true) (msg : List Nat) :
 ∃ R S, signK b x msg = (R, S, 0) ∧ verB b (pubB b x) msg R S = true := by
 obtain ⟨n, rfl, hn⟩ := Grp.ok_iff hb
 have hx := of_decide_eq_true hk
 obtain ⟨y, rfl⟩ : ∃ y : Nat, x = y := ⟨x.toNat, by omega⟩
 rw [signK_t hk]
 have hkn := hashK_bd [110, 111, 110, 99, 101] msg [(y : Int)]
 have hnk : nonceK (y : Int) msg = ((hashK [110, 111, 110, 99, 101] msg [(y : Int)] : Nat) : Int) := rfl
 rw [hnk]
 generalize hashK [110, 111, 110, 99, 101] msg [(y : Int)] = k at hkn ⊢
 have hR : pubB (n : Int) (k : Int) = ((Grp.pw n k : Nat) : Int) := by unfold pubB; rw [Grp.exp_at hb (by omega)]
 have hp : pubB (n : Int) (y : Int) = ((Grp.pw n y : Nat) : Int) := by unfold pubB; rw [Grp.exp_at hb (by omega)]
 rw [hR, hp]
 have hhb := hashK_bd [115, 105, 103, 110] msg [((Grp.pw n k : Nat) : Int), ((Grp.pw n y : Nat) : Int)]
 have hhk : signH msg ((Grp.pw n k : Nat) : Int) ((Grp.pw n y : Nat) : Int) = ((hashK [115, 105, 103, 110] msg [((Grp.pw n k : Nat) : Int), ((Grp.pw n y : Nat) : Int)] : Nat) : Int) := rfl
 unfold verB
 rw [hhk]
 generalize hashK [115, 105, 103, 110] msg [((Grp.pw n k : Nat) : Int), ((Grp.pw n y : Nat) : Int)] = m at hhb hhk ⊢
 have hm : Fld.mul (m : Int) (y : Int) = (((m * y % Grp.Q : Nat) : Int), 0) := by
  unfold Fld.mul
  rw [if_neg (by simp [Fld.out]; omega)]
  simp [Grp.Q]
 have hmq : m * y % Grp.Q < Grp.Q := Nat.mod_lt _ (by decide)
 have hs : signS (k : Int) (m : Int) (y : Int) = ((((k + m * y % Grp.Q) % Grp.Q : Nat) : Int), 0) := by
  unfold signS
  rw [hm]
  unfold Fld.add
  have hQ : Grp.Q = 2305843009213688669 := rfl
  rw [if_neg (by simp only [Fld.out, Bool.or_eq_true, decide_eq_true_eq]; omega)]
  simp [Grp.Q]
 rw [hs]
 refine ⟨_, _, rfl, ?_⟩
 have hS : (k + m * y % Grp.Q) % Grp.Q < 2305843009213688669 := Nat.mod_lt _ (by decide)
 have hSb : pubB (n : Int) (((k + m * y % Grp.Q) % Grp.Q : Nat) : Int) = ((Grp.pw n ((k + m * y % Grp.Q) % Grp.Q) : Nat) : Int) := by unfold pubB; rw [Grp.exp_at hb hS]
 have hpo := Grp.ok_pw hn y
 have hRo := Grp.ok_pw hn k
 have hpo' : Grp.pw (Grp.pw n y) Grp.Q = 1 := Grp.ord_pw hn y
 rw [if_pos ⟨Grp.chk_t hpo, Grp.chk_t hRo, by unfold Fld.chk; rw [if_neg (by simp only [Fld.out, decide_eq_true_eq]; omega)]⟩, hhk, hSb, Grp.exp_at hpo (by omega)]
 rw [decide_eq_true_iff]
 unfold Grp.mul
 rw [if_pos hRo, if_pos (Grp.ok_pw hpo' m)]
 simp only [Int.toNat_natCast]
 rw [Grp.signed_at hn]

theorem base_ok : Grp.ok 4 = true := by
 unfold Grp.ok
 rw [decide_eq_true_iff]
 exact ⟨by decide, by decide, Grp.base_ord⟩

theorem ver_bd {b p R S : Int} {M : List Nat} (h : verB b p M R S = true) : I64 R ∧ I64 S := by
 unfold verB at h
 split at h
 · rename_i hc
   obtain ⟨_, h2, h3⟩ := hc
   have hR : Grp.ok R = true := by
    cases hk : Grp.ok R with
    | true => rfl
    | false => rw [Grp.chk_f hk] at h2; cases h2
   have hS : Fld.out S = false := by
    unfold Fld.chk at h3
    cases hk : Fld.out S with
    | false => rfl
    | true => rw [hk] at h3; cases h3
   unfold Grp.ok at hR
   unfold Fld.out at hS
   rw [decide_eq_true_iff] at hR
   rw [decide_eq_false_iff_not] at hS
   constructor <;> constructor <;> omega
 · cases h

theorem sign_hd (s : Sto.St) (f : Int) (n : Nat) (ds : List (List Nat)) (hk : keyOk s.priv = true) (hs : 0 ≤ s.id ∧ s.id < 4) (hf : 0 ≤ f ∧ f < 16) (hn : n ≤ 65536) (hl : ds.length = n) :
 ∃ h : Vw.Hd, OkH h ∧ hdC h = signHd s f n ds ∧ Vw.Sg s.id f (pubB 4 s.priv) ds h := by
 obtain ⟨R, S, hsk, hv⟩ := ver_sign base_ok hk (headD s.id f n (chainD f ds))
 obtain ⟨hR, hS⟩ := ver_bd hv
 have hc := chain_len f ds
 have e : signHd s f n ds = headC s.id f n (chainD f ds) R S := by unfold signHd; rw [hsk]
 have hpb := pubB_bd 4 s.priv
 generalize pubB 4 s.priv = p at *
 have hb : headB p s.id f n (chainD f ds) R S = true := by
  unfold headB
  rw [hv, show Sto.folderB f = true from decide_eq_true hf, decide_eq_true hs.1, decide_eq_true hs.2, decide_eq_true (by omega : (0 : Int) ≤ n), decide_eq_true (by omega : (n : Int) ≤ 65536)]
  rfl
 exact ⟨⟨s.id, f, n, chainD f ds, R, S⟩, ⟨⟨by show _ ≤ s.id; omega, by show s.id ≤ _; omega⟩, ⟨by show _ ≤ f; omega, by show f ≤ _; omega⟩, ⟨by show _ ≤ (n : Int); omega, by show (n : Int) ≤ _; omega⟩, hR, hS, hc⟩, e.symm, rfl, rfl, by rw [hl], rfl, hb⟩
end Go.Proofs.YtnonfdcbnkdmcaaGreatDoor
namespace Go.Vw
open Go.Proofs.YtnonfdcbnkdmcaaGreatDoor (chainD headB entryD octets pubB verB)
open Go.Sto (Ent)

def entT (s : ByteArray) : Ent := ⟨1, entryD 1 (octets s), octets s, false⟩
theorem entT_ok (s : ByteArray) : entOk (entT s) = true := by
 unfold entOk entT
 simp only [Bool.and_eq_true]
 exact ⟨by decide, by simp⟩
theorem ents_ok (l : List ByteArray) : ∀ x ∈ l.map entT, entOk x = true := fun x hx => by
 obtain ⟨s, _, rfl⟩ := List.mem_map.1 hx
 exact entT_ok s
def tA : ByteArray := ⟨#[97]⟩
def tB : ByteArray := ⟨#[98]⟩
def tC : ByteArray := ⟨#[99]⟩
def one : List Ent := [tA].map entT
def two : List Ent := [tA, tB].map entT
def odd : List Ent := [tA, tC].map entT
theorem chain_differ : (chainD 3 (two.map (·.dig)) == chainD 3 (odd.map (·.dig))) = false := by kernel_rfl
theorem differ_ex : differ 3 (two.map (·.dig)) (odd.map (·.dig)) = true := by
 unfold differ
 refine decide_eq_true fun e => ?_
 have h := chain_differ
 have e' : chainD 3 (two.map (·.dig)) = chainD 3 (odd.map (·.dig)) := e
 rw [e'] at h
 simp at h
theorem differ_self (fo : Int) (p : List (List Nat)) : differ fo p p = false := by
 unfold differ
 exact decide_eq_false fun h => h rfl
section
variable {p : Int} {n h g k : Hd}
def vN (p : Int) (n : Hd) : V := ⟨0, 3, p, [], [n]⟩
def vY (p : Int) (h : Hd) : V := ⟨0, 3, p, two.map (·.dig), [h]⟩
theorem ex_none (hs : Sg 0 3 p [] n) : accV (newV 0 3 p) [] n = (vN p n, zeroF, 0) := acc_new ⟨by decide, by decide⟩ ⟨by decide, by decide⟩ rfl (fun _ h => by cases h) hs
theorem ex_two (hs : Sg 0 3 p (two.map (·.dig)) h) : accV (newV 0 3 p) two h = (vY p h, zeroF, 0) := acc_new ⟨by decide, by decide⟩ ⟨by decide, by decide⟩ rfl (ents_ok _) hs
theorem ex_odd (hs : Sg 0 3 p (two.map (·.dig)) h) (gs : Sg 0 3 p (odd.map (·.dig)) g) : ∃ f, accV (vY p h) odd g = (vY p h, f, 321) ∧ proveV p f = 0 := by
 have e := acc_two (id := 0) ⟨by decide, by decide⟩ ⟨by decide, by decide⟩ hs gs (l := odd) rfl (ents_ok _)
 rw [differ_ex, if_pos rfl] at e
 obtain ⟨h1, h2⟩ := (acc_proofs (v := vY p h) (l := odd) (h := g)).1 e
 exact ⟨(accV (vY p h) odd g).2.1, Prod.ext h2 (Prod.ext rfl e), h1⟩
theorem ex_zero : accV (newV 0 3 p) [] zeroH = (zeroV, zeroF, 320) := by
 unfold accV
 rw [if_neg]
 unfold accOk
 have : ownsB (newV 0 3 p) zeroH = false := by
  unfold ownsB
  have : decide (zeroH.fo = (newV 0 3 p).fo) = false := rfl
  rw [this, Bool.and_false, Bool.false_and]
 rw [this]
 simp
theorem ex_cmp (hs : Sg 0 3 p (two.map (·.dig)) h) : ∃ f, cmpV (vY p h) (vY p h) = (f, false) :=
 ⟨_, Prod.ext rfl ((cmp_two (id := 0) ⟨by decide, by decide⟩ ⟨by decide, by decide⟩ hs hs).trans (differ_self _ _))⟩
theorem ex_own (hs : Sg 0 3 p (two.map (·.dig)) h) (ks : Sg 0 3 p (one.map (·.dig)) k) : proveV p ⟨k, h, two.map (·.dig)⟩ = 321 :=
 prove_own (D := two.map (·.dig)) (m := 1) (n := 2) (by decide) (by decide) ks hs
theorem ex_zerof : proveV 0 zeroF = 321 := by
 unfold proveV
 rw [if_neg]
 unfold proveB
 have : verH 0 zeroF.a = false := by
  unfold verH headB
  have : verB 4 0 (Go.Proofs.YtnonfdcbnkdmcaaGreatDoor.headD zeroF.a.st zeroF.a.fo zeroF.a.no zeroF.a.ch) zeroF.a.R zeroF.a.S = false := by
   unfold verB
   rw [if_neg]
   intro h
   exact absurd h.1 (by decide)
  rw [this, Bool.and_false]
 rw [this]
 simp
theorem ex_new0 : validB (newV 0 0 0) = true := by decide
theorem ex_new4 : validB (newV 4 0 0) = false := by decide
end
end Go.Vw
namespace Go.Proofs.YtnonfdcbnkdmcaaGreatDoor
open Go.RowKit Go.Mem Go.Shelf
open Go.Sto (Ent)
open Go.Vw (Hd Fk eqH zeroF)

structure OkR (e : Ent) : Prop where
 dig : e.dig.length = 32
 lt : ∀ u ∈ e.dig, u < 256
 lo : -9223372036854775808 ≤ e.kind
 hi : e.kind ≤ 9223372036854775807
def EVr (w : World) (e : Ent) (r : List Value) : Prop := OkR e ∧ ∃ a n c, r = entC e a n c ∧ BW w a n c e.data
abbrev ESr (w : World) (a : Option Addr) (n c : Nat) (l : List Ent) : Prop := RS 35 EVr (fun _ => True) w a n c l
theorem ESr.below {w w' : World} {a : Option Addr} {n c : Nat} {l : List Ent} (h : ESr w a n c l) (hb : Below w.heap.size w w') : ESr w' a n c l := h.keep (.below hb) fun _ _ ⟨ho, a, n, c, er, hB⟩ => ⟨ho, a, n, c, er, hB.below hb⟩
theorem ESr.es {w : World} {a : Option Addr} {n c : Nat} {l : List Ent} (h : ESr w a n c l) (hn : n ≤ 100000) (hd : ∀ e ∈ l, e.data.length ≤ 1000000) : ES (fun _ => True) w a n c l := by
 refine ⟨⟨h.len, h.sep, ?_⟩, hn⟩
 obtain ⟨rows, hR, hO⟩ := h.rows
 refine ⟨rows, hR, hO.len, hO.size, fun i e r he hr => ?_⟩
 obtain ⟨ho, a, n, c, er, hB⟩ := hO.each i e r he hr
 exact ⟨⟨ho.dig, ho.lt, ho.lo, ho.hi, hd e (List.mem_of_getElem? he)⟩, a, n, c, er, hB.bk⟩

def fewE (l : List Ent) : Bool := l.all (fun e => decide (e.data.length ≤ 9000))
def few30 (l : List Ent) : Bool := fewE l && decide (l.length ≤ 14)

set_option maxRecDepth 20000 in
set_option maxHeartbeats 1000000 in
theorem fewE30_any (a : Option Addr) (n c : Nat) (l : List Ent) (w : World) (H : ESr w a n c l) :
 Calls Tryz.prog 56 #[.slice a n c] w fun e w' => e = .returned (.bool (few30 l)) ∧ w' = w := by
 have hlen := H.len
 have hmx := H.max
 have hle := H.le
 have n63 : (n : Int) ≤ 9223372036854775807 := by omega
 have H' := Lib.hid H
 clear H hmx hle
 obtain ⟨X, hX⟩ : ∃ X, X = fun (e : Ending) (w' : World) => e = .returned (.bool (few30 l)) ∧ w' = w := ⟨_, rfl⟩
 have hfin : Hid (∀ b, few30 l = b → X (.returned (.bool b)) w) := fun b hb => by rw [hX, hb]; exact ⟨rfl, rfl⟩
 rw [← hX]
 clear hX
 go_enter Tryz.func56, Tryz.ntmps56
 go_wp2_with fail
 go_loop [3] (fun i => ∃ k : Nat, k ≤ n ∧ i = .int .i64 k ∧ Hid (∀ e ∈ l.take k, e.data.length ≤ 9000)) (fun i => n - (intOf i).toNat)
 case atStart => exact ⟨0, Nat.zero_le _, rfl, fun _ h => by cases h⟩
 case round =>
  obtain ⟨k, hk, rfl, hall⟩ := hrel
  by_cases hlt : k < n
  · obtain ⟨x, hx⟩ : ∃ x, l[k]? = some x := ⟨_, List.getElem?_eq_getElem (by omega)⟩
    obtain ⟨b, off, r, rfl, hbl, _, ⟨ho, da, dn, dc, er, hB⟩, hrl, hrg⟩ := H'.out.get hx
    have hc : w.cell? ⟨b, off + k * 35 + 33, none⟩ = some (.slice da dn dc) := by rw [er] at hrg; exact hrg 33 _ (entC_data ho.dig _ _ _)
    have hdl := hB.len
    have k0 : (0 : Int) ≤ (k : Int) := by omega
    have k1 : (k : Int) < (n : Int) := by omega
    clear er hrg hrl ho hB
    by_cases hd : dn ≤ 9000
    · have g1 : decide ((9000 : Int) < (dn : Int)) = false := decide_eq_false (by omega)
      have hall2 : Hid (∀ e ∈ l.take (k + 1), e.data.length ≤ 9000) := fun e he => by
       rw [List.take_succ_eq_append_getElem (by omega), (List.getElem?_eq_some_iff.1 hx).2] at he
       rcases List.mem_append.1 he with he | he
       · exact hall.out e he
       · rw [List.mem_singleton] at he; rw [he, hdl]; exact hd
      clear hx hd hdl
      go_wp2_with fail
      go_round
      case rel => exact ⟨k + 1, by omega, by go_num, hall2⟩
      case measure => simp [intOf]; omega
    · have g1 : decide ((9000 : Int) < (dn : Int)) = true := decide_eq_true (by omega)
      have hf := Lib.hid (hfin.out false (by
       have : fewE l = false := List.all_eq_false.2 ⟨x, List.mem_of_getElem? hx, by rw [hdl]; simpa using hd⟩
       unfold few30; rw [this]; rfl))
      clear hx hd hdl
      go_wp2_with fail
      exact hf.out
  · obtain rfl : k = n := by omega
    have hA : fewE l = true := List.all_eq_true.2 fun e he => decide_eq_true (hall.out e (by rw [List.take_of_length_le (by omega)]; exact he))
    obtain ⟨q, hq⟩ : ∃ q, Hid (decide ((k : Int) ≤ 14) = q) := ⟨_, rfl⟩
    have hf := Lib.hid (hfin.out q (by unfold few30; rw [hA, hlen, ← hq.out, Bool.true_and]; exact decide_eq_decide.2 (by omega)))
    have g1 := hq.out
    clear hA hall hq
    go_wp2_with fail
    exact hf.out

def fewE32 (l : List Ent) : Bool := decide (l.length ≤ 12) && few30 l
set_option maxRecDepth 20000 in
set_option maxHeartbeats 1000000 in
theorem fewE32_any (a : Option Addr) (n c : Nat) (l : List Ent) (w : World) (H : ESr w a n c l) :
 Calls Tryz.prog 29 #[.slice a n c] w fun e w' => e = .returned (.bool (fewE32 l)) ∧ w' = w := by
 have hlen := H.len
 have hfe := Lib.hid (fewE30_any a n c l w H)
 unfold fewE32
 rw [hlen]
 generalize few30 l = q at *
 clear H hlen
 by_cases h : n ≤ 12
 · have g1 : decide ((n : Int) ≤ 12) = true := decide_eq_true (by omega)
   rw [decide_eq_true h, Bool.true_and]
   clear h
   go_enter Tryz.func29, Tryz.ntmps29
   go_wp2_with fail
   refine hfe.out.mono ?_
   rintro e w' ⟨rfl, rfl⟩
   go_wp2_with fail
   go_ret
   exact ⟨rfl, rfl⟩
 · have g1 : decide ((n : Int) ≤ 12) = false := decide_eq_false (by omega)
   rw [decide_eq_false h, Bool.false_and]
   clear h
   go_enter Tryz.func29, Tryz.ntmps29
   go_wp2_with fail
   go_ret
   exact ⟨rfl, rfl⟩

def fewV (dn hn : Nat) : Bool := decide (dn ≤ 14) && decide (hn ≤ 8)
set_option maxRecDepth 20000 in
set_option maxHeartbeats 1000000 in
theorem few32_any (st fo pub : Int) (da : Option Addr) (dn dc : Nat) (ha : Option Addr) (hn hc : Nat) (w : World) :
 Calls Tryz.prog 20 #[.agg #[.int .i64 st, .int .i64 fo, .int .i64 pub, .slice da dn dc, .slice ha hn hc]] w (RetBo (fewV dn hn) w) := by
 have hb : Hid (Below w.heap.size w (w.alloc (.cells #[.int .i64 st, .int .i64 fo, .int .i64 pub, .slice da dn dc, .slice ha hn hc] 50))) := (Below.refl _ w).alloc (Nat.le_refl _) _
 unfold fewV
 by_cases h : dn ≤ 14
 · have g1 : decide ((dn : Int) ≤ 14) = true := decide_eq_true (by omega)
   have g2 : decide (hn ≤ 8) = decide ((hn : Int) ≤ 8) := decide_eq_decide.2 (by omega)
   rw [decide_eq_true h, Bool.true_and, g2]
   obtain ⟨q, hq⟩ : ∃ q, decide ((hn : Int) ≤ 8) = q := ⟨_, rfl⟩
   rw [hq]
   clear h g2
   go_enter Tryz.func20, Tryz.ntmps20
   go_wp2_with fail
   go_ret
   exact ⟨rfl, hb.out⟩
 · have g1 : decide ((dn : Int) ≤ 14) = false := decide_eq_false (by omega)
   rw [decide_eq_false h, Bool.false_and]
   clear h
   go_enter Tryz.func20, Tryz.ntmps20
   go_wp2_with fail
   go_ret
   exact ⟨rfl, hb.out⟩

set_option maxRecDepth 20000 in
set_option maxHeartbeats 4000000 in
theorem sameD_any (a1 : Option Addr) (n1 c1 : Nat) (l1 : List (List Nat)) (a2 : Option Addr) (n2 c2 : Nat) (l2 : List (List Nat)) (w : World) (H1 : DS w a1 n1 c1 l1) (H2 : DS w a2 n2 c2 l2) :
 Calls Tryz.prog 53 #[.slice a1 n1 c1, .slice a2 n2 c2] w (RetBo (decide (l1 = l2)) w) := by
 have e1 := H1.len
 have e2 := H2.len
 have m63 : (n1 : Int) ≤ 9223372036854775807 := by have := H1.le; have := H1.max; omega
 have H1' := Lib.hid H1; have H2' := Lib.hid H2
 clear H1 H2
 obtain ⟨X, hX⟩ : ∃ X, X = RetBo (decide (l1 = l2)) w := ⟨_, rfl⟩
 have hfin : Hid (∀ b W, decide (l1 = l2) = b → Below w.heap.size w W → X (.returned (.bool b)) W) := fun b W hb h => by rw [hX, hb]; exact ⟨rfl, h⟩
 rw [← hX]
 clear hX
 by_cases hn : n1 = n2
 case neg =>
  have g1 : ((n1 : Int) != (n2 : Int)) = true := by simp; omega
  have hf := Lib.hid (hfin.out false w (decide_eq_false fun e => hn (by rw [← e1, ← e2, e])) (Below.refl _ w))
  clear hn
  go_enter Tryz.func53, Tryz.ntmps53
  go_wp2_with fail
  exact hf.out
 case pos =>
  subst hn
  go_enter Tryz.func53, Tryz.ntmps53
  go_wp2_with fail
  go_loopw [5] (fun i wr => ∃ k : Nat, k ≤ n1 ∧ i = .int .i64 k ∧ Hid (l1.take k = l2.take k) ∧ Hid (Below w.heap.size w wr)) (fun i _ => n1 - (intOf i).toNat)
  case atStart => exact ⟨0, Nat.zero_le _, rfl, rfl, Below.refl _ _⟩
  case round =>
   obtain ⟨k, hk, rfl, htk, hb⟩ := hrel
   by_cases hlt : k < n1
   · obtain ⟨x, hx⟩ : ∃ x, l1[k]? = some x := ⟨_, List.getElem?_eq_getElem (by omega)⟩
     obtain ⟨y, hy⟩ : ∃ y, l2[k]? = some y := ⟨_, List.getElem?_eq_getElem (by omega)⟩
     have hx1 : a1 ≠ none := fun e => by have := H1'.out.nil e; omega
     have hx2 : a2 ≠ none := fun e => by have := H2'.out.nil e; omega
     obtain ⟨ad1, rfl⟩ := Option.ne_none_iff_exists'.1 hx1
     obtain ⟨ad2, rfl⟩ := Option.ne_none_iff_exists'.1 hx2
     obtain ⟨b1, o1, rfl, hl1, hc1⟩ := H1'.out.cells (by omega) _ rfl
     obtain ⟨b2, o2, rfl, hl2, hc2⟩ := H2'.out.cells (by omega) _ rfl
     have ox := H1'.out.ok x (List.mem_of_getElem? hx)
     have oy := H2'.out.ok y (List.mem_of_getElem? hy)
     have r1 : Hid (w.rangeAt b1 (o1 + k * 32) (bv x)) := by show World.rangeAt _ _ _ _; rw [Nat.mul_comm]; exact hc1 k x hx
     have r2 : Hid (w.rangeAt b2 (o2 + k * 32) (bv y)) := by show World.rangeAt _ _ _ _; rw [Nat.mul_comm]; exact hc2 k y hy
     have i1 : Hid ((Tryz.prog.info? 32).map (·.size) = some (bv x).length) := by show _ = _; rw [bv_length, ox.1]; exact size35
     have i2 : Hid ((Tryz.prog.info? 32).map (·.size) = some (bv y).length) := by show _ = _; rw [bv_length, oy.1]; exact size35
     have heq := fun W => eq_dig (x := x) (y := y) ox oy W
     have k0 : (0 : Int) ≤ (k : Int) := by omega
     have k1 : (k : Int) < (n1 : Int) := by omega
     have hsn : l1.take (k + 1) = l1.take k ++ [x] := by rw [List.take_succ_eq_append_getElem (by omega), (List.getElem?_eq_some_iff.1 hx).2]
     have hsm : l2.take (k + 1) = l2.take k ++ [y] := by rw [List.take_succ_eq_append_getElem (by omega), (List.getElem?_eq_some_iff.1 hy).2]
     obtain ⟨q, hq⟩ : ∃ q, Hid (decide (x = y) = q) := ⟨_, rfl⟩
     have hw1 : q = true → Hid (l1.take (k + 1) = l2.take (k + 1)) := fun e => by
      show _ = _
      rw [hsn, hsm, htk.out, of_decide_eq_true (hq.out.trans e)]
     have hw2 : q = false → decide (l1 = l2) = false := fun e => decide_eq_false fun e2 => by
      have h1 := of_decide_eq_false (hq.out.trans e)
      rw [e2, hy] at hx
      cases hx
      exact h1 rfl
     have hw1' := Lib.hid hw1
     have hw2' := Lib.hid hw2
     rw [hq.out] at heq
     clear hx hy hx1 hx2 hc1 hc2 hsn hsm hw1 hw2 hq htk
     go_wp2_with fail
     refine wp_region_held_drew (S := fun wz => Below wr.heap.size wr wz) (by kernel_rfl) ((Below.refl _ wr).drew) (fun hHeld => ?_)
     refine tQ 0 rfl hHeld ?_
     refine tQ 1 rfl hHeld ?_
     refine tQ 2 rfl hHeld ?_
     refine tY 3 rfl b1 (o1 + k * 32) (bv x) (fun wz h => fun j v hv => (h.cell (p := ⟨b1, _, none⟩) (Nat.lt_of_lt_of_le hl1 hb.out.size)).trans ((hb.out.cell (p := ⟨b1, _, none⟩) hl1).trans (r1.out j v hv))) Tryz.underlying32 i1.out hHeld ?_
     refine tQ 4 rfl hHeld ?_
     refine tQ 5 rfl hHeld ?_
     refine tQ 6 rfl hHeld ?_
     refine tY 7 rfl b2 (o2 + k * 32) (bv y) (fun wz h => fun j v hv => (h.cell (p := ⟨b2, _, none⟩) (Nat.lt_of_lt_of_le hl2 hb.out.size)).trans ((hb.out.cell (p := ⟨b2, _, none⟩) hl2).trans (r2.out j v hv))) Tryz.underlying32 i2.out hHeld ?_
     refine tQ 8 rfl hHeld ?_
     refine wpAnyH_done (by kernel_rfl) ?_ _
     have hb2 := Lib.hid (hb.out.trans (hHeld.mono hb.out.size))
     clear hHeld
     cases q with
     | false =>
      have hf := Lib.hid (hfin.out false _ (hw2'.out rfl) hb2.out)
      go_wp2_with fail
      exact hf.out
     | true =>
      have hw := hw1'.out rfl
      go_wp2_with fail
      go_roundw
      case rel => exact ⟨k + 1, by omega, by go_num, hw, hb2⟩
      case measure => simp [intOf]; omega
   · obtain rfl : k = n1 := by omega
     have ht := htk.out
     rw [List.take_of_length_le (by omega), List.take_of_length_le (by omega)] at ht
     have hf := Lib.hid (hfin.out true wr (decide_eq_true ht) hb.out)
     clear htk ht
     go_wp2_with fail
     exact hf.out

set_option maxRecDepth 20000 in
set_option maxHeartbeats 4000000 in
theorem sameV_any (v : Vw.V) (da : Option Addr) (dn dc : Nat) (ha : Option Addr) (hn hc : Nat) (db : Option Addr) (bc : Nat) (hb : Option Addr) (bk : Nat) (w : World) (HA : VM w v da dn dc ha hn hc) (HB : VM w v db dn bc hb hn bk) :
 Calls Tryz.prog 23 #[.agg #[.int .i64 v.st, .int .i64 v.fo, .int .i64 v.pub, .slice da dn dc, .slice ha hn hc], .agg #[.int .i64 v.st, .int .i64 v.fo, .int .i64 v.pub, .slice db dn bc, .slice hb hn bk]] w (RetBo true w) := by
 have HA' := Lib.hid HA; have HB' := Lib.hid HB
 have hlen := HA.hs.rs.len
 have hnb := HA.hs.bd
 have n63 : (hn : Int) ≤ 100000 := by omega
 clear HA HB
 obtain ⟨tb, htb⟩ : ∃ tb, Hid (w.heap.size = tb) := ⟨_, rfl⟩
 obtain ⟨W1, hW1⟩ : ∃ W1, W1 = (w.alloc (.cells #[.int .i64 v.st, .int .i64 v.fo, .int .i64 v.pub, .slice da dn dc, .slice ha hn hc] 50)).alloc (.cells #[.int .i64 v.st, .int .i64 v.fo, .int .i64 v.pub, .slice db dn bc, .slice hb hn bk] 50) := ⟨_, rfl⟩
 have e1 : (w.alloc (.cells #[.int .i64 v.st, .int .i64 v.fo, .int .i64 v.pub, .slice da dn dc, .slice ha hn hc] 50)).heap.size = tb + 1 := by rw [World.size_alloc, htb.out]
 have hA : Hid (Blk W1 tb 50 [.int .i64 v.st, .int .i64 v.fo, .int .i64 v.pub, .slice da dn dc, .slice ha hn hc]) := by rw [hW1, ← htb.out]; exact (Blk.new w _ _).alloc _
 have hB : Hid (Blk W1 (tb + 1) 50 [.int .i64 v.st, .int .i64 v.fo, .int .i64 v.pub, .slice db dn bc, .slice hb hn bk]) := by rw [hW1, ← e1]; exact Blk.new _ _ _
 have hb1 : Hid (Below w.heap.size w W1) := by rw [hW1]; exact ((Below.refl _ w).alloc (Nat.le_refl _) _).alloc (by simp) _
 clear e1
 have hsd := Lib.hid (fun W h1 h2 => sameD_any da dn dc v.ds db dn bc v.ds W h1 h2)
 rw [decide_eq_true (rfl : v.ds = v.ds)] at hsd
 obtain ⟨X, hX⟩ : ∃ X, X = RetBo true w := ⟨_, rfl⟩
 have hfin : Hid (∀ W, Below w.heap.size w W → X (.returned (.bool true)) W) := fun W h => by rw [hX]; exact ⟨rfl, h⟩
 rw [← hX]
 clear hX
 have a0 := hA.out.at_ (i := 0) rfl; have a1 := hA.out.at_ (i := 1) rfl; have a2 := hA.out.at_ (i := 2) rfl; have a3 := hA.out.at_ (i := 3) rfl; have a4 := hA.out.at_ (i := 4) rfl
 have b0 := hB.out.at_ (i := 0) rfl; have b1 := hB.out.at_ (i := 1) rfl; have b2 := hB.out.at_ (i := 2) rfl; have b3 := hB.out.at_ (i := 3) rfl; have b4 := hB.out.at_ (i := 4) rfl
 go_enter Tryz.func23, Tryz.ntmps23
 go_upto_region 1 with fail
 rw [htb.out]
 generalize hWq : (w.alloc _).alloc _ = Wq
 obtain rfl : W1 = Wq := by rw [← hWq, hW1]
 clear hWq hW1
 go_wp2_with fail
 refine (hsd.out _ (HA'.out.ds.below hb1.out) (HB'.out.ds.below hb1.out)).mono ?_
 rintro e w2 ⟨rfl, hb2⟩
 have hA2 := Lib.hid (hA.out.below hb2 hA.out.lt)
 have hB2 := Lib.hid (hB.out.below hb2 hB.out.lt)
 have hbw := Lib.hid (hb1.out.trans (hb2.mono hb1.out.size))
 clear hb2 hA hB hb1 a0 a1 a2 a3 a4 b0 b1 b2 b3 b4 hsd
 have a4 := hA2.out.at_ (i := 4) rfl
 have b4 := hB2.out.at_ (i := 4) rfl
 go_wp2_with fail
 clear a4 b4
 go_loopw [5] (fun i wr => ∃ k : Nat, k ≤ hn ∧ i = .int .i64 k ∧ Hid (Below w2.heap.size w2 wr)) (fun i _ => hn - (intOf i).toNat)
 case atStart => exact ⟨0, Nat.zero_le _, rfl, Below.refl _ _⟩
 case round =>
  obtain ⟨k, hk, rfl, hbr⟩ := hrel
  have hA3 := Lib.hid (hA2.out.below hbr.out hA2.out.lt)
  have hB3 := Lib.hid (hB2.out.below hbr.out hB2.out.lt)
  have hbz := Lib.hid (hbw.out.trans (hbr.out.mono hbw.out.size))
  have a4 := hA3.out.at_ (i := 4) rfl
  have b4 := hB3.out.at_ (i := 4) rfl
  have atl := hA3.out.lt
  have btl := hB3.out.lt
  by_cases hlt : k < hn
  · obtain ⟨h, he⟩ : ∃ h, v.hs[k]? = some h := ⟨_, List.getElem?_eq_getElem (by omega)⟩
    obtain ⟨p1, o1, rfl, hl1, ok, r1⟩ := (HA'.out.hs.below hbz.out).get he
    obtain ⟨p2, o2, rfl, hl2, _, r2⟩ := (HB'.out.hs.below hbz.out).get he
    have hri := infoHd ok
    have heq := fun W => eq_head ok ok W
    rw [Go.Proofs.YtnonfdcbnkdmcaaGreatDoor.eqH_refl] at heq
    have k0 : (0 : Int) ≤ (k : Int) := by omega
    have k1 : (k : Int) < (hn : Int) := by omega
    have r1' := Lib.hid r1; have r2' := Lib.hid r2
    clear he r1 r2 ok
    generalize hdC h = r at *
    go_upto_region 6 with fail
    refine wp_region_held_drew (S := fun wz => Below wr.heap.size wr wz) (by kernel_rfl) ((Below.refl _ wr).drew) (fun hHeld => ?_)
    refine tQ 0 rfl hHeld ?_
    refine tX 1 rfl (fun wz hSw => (hSw.cell (p := ⟨tb, 4, none⟩) atl).trans a4) hHeld ?_
    refine tQ 2 rfl hHeld ?_
    refine tQ 3 rfl hHeld ?_
    refine tY 4 rfl p1 (o1 + k * 37) (r) (fun wz h => fun j v hv => (h.cell (p := ⟨p1, _, none⟩) hl1).trans (r1'.out j v hv)) Tryz.underlying36 hri.out hHeld ?_
    refine tQ 5 rfl hHeld ?_
    refine tX 6 rfl (fun wz hSw => (hSw.cell (p := ⟨tb + 1, 4, none⟩) btl).trans b4) hHeld ?_
    refine tQ 7 rfl hHeld ?_
    refine tQ 8 rfl hHeld ?_
    refine tY 9 rfl p2 (o2 + k * 37) (r) (fun wz h => fun j v hv => (h.cell (p := ⟨p2, _, none⟩) hl2).trans (r2'.out j v hv)) Tryz.underlying36 hri.out hHeld ?_
    refine tQ 10 rfl hHeld ?_
    refine wpAnyH_done (by kernel_rfl) ?_ _
    have hb2 := Lib.hid (hbr.out.trans (hHeld.mono hbr.out.size))
    clear hHeld
    go_wp2_with fail
    go_roundw
    case rel => exact ⟨k + 1, by omega, by go_num, hb2⟩
    case measure => simp [intOf]; omega
  · obtain rfl : k = hn := by omega
    have hf := Lib.hid (hfin.out _ hbz.out)
    go_wp2_with fail
    exact hf.out

end Go.Proofs.YtnonfdcbnkdmcaaGreatDoor
namespace Go
variable {P : Program}
theorem wp_convert_run {o : Oper} {a : Act} {w w' : World} {K : Act → World → Prop} {Q : Exit → Act → World → Prop} {v : Value} (t u : TypeId) (x : Operand) (h : o.op = .convert t u x) (y : Value) (hx : a.eval x = y) (hr : (convert t u y).run P w = .ok v w') (hK : K (a.put o.dst v) w') : o.wp P a w K Q := by
 unfold Oper.wp execOp
 simp only [h, hx, Sem.run_bind, hr, Result.andThen_ok, Sem.run_pure]
 exact hK
end Go
namespace Go.Mem
open Go.RowKit
variable {P : Program}
theorem results_cell_tmp_tmp {fn : Func} {p u v : Tmp} {ty : TypeId} (h : fn.results = #[.cell p ty, .tmp u, .tmp v]) (tmps : Array Value) (w : World) :
 (results fn tmps).run P w =
   ((asAddr (tmps.getD p undef)).run P w).andThen fun a w₁ => ((loadVar ty a).run P w₁).andThen fun x w₂ => .ok (.tuple #[x, tmps.getD u undef, tmps.getD v undef]) w₂ := by
 simp only [results, h]
 simp [Sem.run_bind, Result.andThen]
theorem ret_cell_tmp_tmp {fn : Func} {p u u2 : Tmp} {ty t : TypeId} (h : fn.results = #[.cell p ty, .tmp u, .tmp u2]) {W : World} {g : Nat} {r : List Value} {d : TypeDesc} {v v2 : Value} (hB : Blk W g t r) (hu : P.underlying ty = some d) (hd : d.isRow = true) (hi : (P.info? ty).map (·.size) = some r.length)
 {a : Act} (hp : a.tmps.getD p undef = .pointer (some ⟨g, 0, none⟩)) (hq : a.tmps.getD u undef = v) (hq2 : a.tmps.getD u2 undef = v2) (hdf : a.defers = []) {Post : Ending → World → Prop} (hP : Post (.returned (.tuple #[.agg r.toArray, v, v2])) W) : bodyPost P fn Post .ret a W := by
 refine bodyPost_ret (v := .tuple #[.agg r.toArray, v, v2]) ?_ hdf hP
 rw [results_cell_tmp_tmp h, hp, hq, hq2]
 simp only [asAddr, Sem.run_pure, Result.andThen_ok, load_blk hB hu hd hi]
end Go.Mem
namespace Go.Proofs.YtnonfdcbnkdmcaaGreatDoor
open Go.RowKit Go.Mem Go.Shelf
open Go.Sto (Ent)
open Go.Vw (entT)

theorem infoEn : (Tryz.prog.info? 75).map (fun i => (i.zero.map (·.cells.size), i.size, i.bytes)) = some (some 35, 35, 72) := by kernel_rfl
theorem info_partsE : ∃ i0, Tryz.prog.info? 75 = some i0 ∧ (∃ z, i0.zero = some z ∧ z.cells.size = 35) ∧ i0.size = 35 ∧ i0.bytes = 72 := by
 have h := infoEn
 cases hq : Tryz.prog.info? 75 with
 | none => rw [hq] at h; simp at h
 | some i =>
  rw [hq] at h
  simp only [Option.map_some, Option.some.injEq, Prod.mk.injEq, Option.map_eq_some_iff] at h
  exact ⟨i, rfl, h.1, h.2.1, h.2.2⟩
def OwnE (w0 W : World) (v : Value) (l : List Ent) : Prop := ∃ rows, W.ownsRow w0.heap.size 75 35 v l.length rows.flatten ∧ RowsOf 35 (EV (fun b => w0.heap.size ≤ b ∧ v.ownBlock ≠ some b) W) l rows
theorem ownE_nil (w0 W : World) : OwnE w0 W (.slice none 0 0) [] := ⟨[], World.ownsRow_nil W _ _ _, RowsOf.nil⟩
theorem OwnE.es {w0 W : World} {v : Value} {l : List Ent} (h : OwnE w0 W v l) (hn : l.length ≤ 100000) : ∃ a c, v = .slice a l.length c ∧ ES (fun b => w0.heap.size ≤ b) W a l.length c l := by
 obtain ⟨rows, ho, hR⟩ := h
 obtain ⟨a, c, rfl, hr, h3⟩ := Sl.of_owns ho
 exact ⟨a, c, rfl, ⟨rfl, fun _ ad e => (h3 ad e).1, rows, hr, hR.imp fun e r ⟨h1, a, n, c, h2, h3⟩ => ⟨h1, a, n, c, h2, h3.imp fun b _ h => h.1⟩⟩, hn⟩
theorem OwnE.below {w0 W W' : World} {v : Value} {l : List Ent} (h : OwnE w0 W v l) (hb : Below W.heap.size W W') : OwnE w0 W' v l := by
 obtain ⟨rows, ho, hR⟩ := h
 refine ⟨rows, ho.kept (grown_of_below hb none) (by rcases ho.2 with ⟨e, _⟩ | ⟨g, cap, cur, e, _⟩ <;> rw [e] <;> simp [Value.ownBlock]), hR.imp fun e r ⟨h1, a, n, c, h2, h3⟩ => ⟨h1, a, n, c, h2, h3.keep (Keeps.below hb)⟩⟩
theorem append_en {w0 W : World} {v : Value} {l : List Ent} {e : Ent} {a : Option Addr} {n c : Nat} (ho : OwnE w0 W v l) (hb0 : Below w0.heap.size w0 W) (hE : OkE e) (hd : BK (fun b => w0.heap.size ≤ b ∧ v.ownBlock ≠ some b) W a n c e.data) (hn : l.length + 1 ≤ 100000) :
 ∃ v' W', (∀ ty, (Builtin.append_ #[30, 30] ty #[v, .slice (some ⟨W.heap.size, 0, none⟩) 1 1]).run Tryz.prog (W.alloc (.cells (entC e a n c).toArray 75)) = .ok v' W') ∧ OwnE w0 W' v' (l ++ [e]) ∧ Below w0.heap.size w0 W' := by
 obtain ⟨rows, hown0, hR⟩ := ho
 obtain ⟨i0, hi, ⟨z, hz0, hzs⟩, hz1, hz2⟩ := info_partsE
 have hown := World.ownsRow.alloc hown0 (.cells (entC e a n c).toArray 75)
 have hba := hb0.alloc hb0.size (.cells (entC e a n c).toArray 75)
 have hal : Below W.heap.size W (W.alloc (.cells (entC e a n c).toArray 75)) := (Below.refl _ W).alloc (Nat.le_refl _) _
 have hB := Blk.new W 75 (entC e a n c)
 have hel := entC_length hE.dig a n c
 obtain ⟨v', w', hr, h2, h3, _, h5⟩ := run_append_own_at (P := Tryz.prog) (w := W.alloc (.cells (entC e a n c).toArray 75)) w0.heap.size 30 0 75 i0 z 35 72 Tryz.underlying30 hi hz0 hz1 hz2 hzs (by omega) v l.length rows.flatten hown ⟨W.heap.size, 0, none⟩ 1 1 (entC e a n c) (by rw [hel]) (fun j u hj => by rw [Addr.add_lit, Nat.zero_add]; exact hB.at_ hj) (entC_one _ _ _ _) (by unfold maxLen; omega) (by omega) hba.size
 have hK : ∀ {a n c} {xs : List Nat}, BK (fun b => w0.heap.size ≤ b ∧ v.ownBlock ≠ some b) W a n c xs → BK (fun b => w0.heap.size ≤ b ∧ v'.ownBlock ≠ some b) w' a n c xs := fun hk => by
  have k1 := BK.imp (K' := fun b => w0.heap.size ≤ b ∧ v.ownBlock ≠ some b ∧ b < W.heap.size) hk (fun b hb h => ⟨h.1, h.2, hb⟩)
  have k2 := k1.keep (Keeps.below hal)
  have k3 := k2.keep (w' := w') ⟨h3.size, fun b hb k => h3.block b hb (fun e => k.2.1 e.symm)⟩
  refine k3.imp fun b _ k => ⟨k.1, fun e => ?_⟩
  rcases h5 with h5 | h5
  · exact k.2.1 (by rw [← h5]; exact e)
  · rw [h5] at e
    have h6 := k.2.2
    simp only [World.size_alloc, Option.some.injEq] at e
    omega
 refine ⟨v', w', fun ty => ?_, ⟨rows ++ [entC e a n c], ?_, ?_⟩, hba.grown h3 hba.size (fun r e => (World.ownsRow.lt hown r e).1)⟩
 · rw [← hr]; rfl
 · rw [List.flatten_append, List.flatten_singleton, List.length_append]; exact h2
 · exact (hR.imp fun e r ⟨h1, a, n, c, q, h3⟩ => ⟨h1, a, n, c, q, hK h3⟩).append (RowsOf.one ⟨hE, a, n, c, rfl, hK hd⟩ hel)
theorem ent_build_g (g : Nat → Nat) (k : Int) (a : Option Addr) (n c : Nat) (W : World) : (Instr.build 75 #[(0, .int .i64 k), (1, .agg (bv ((List.range 32).map g)).toArray), (2, .slice a n c)]).run Tryz.prog W = .ok (.agg (entC ⟨k, (List.range 32).map g, [], false⟩ a n c).toArray) W := by kernel_rfl
theorem ent_slice_g (g : Nat → Nat) (k : Int) (a : Option Addr) (n c : Nat) (W : World) : (Instr.buildSlice 30 1 #[(0, .agg (entC ⟨k, (List.range 32).map g, [], false⟩ a n c).toArray)]).run Tryz.prog W = .ok (.slice (some ⟨W.heap.size, 0, none⟩) 1 1) (W.alloc (.cells (entC ⟨k, (List.range 32).map g, [], false⟩ a n c).toArray 75)) := by kernel_rfl
theorem ent_build {e : Ent} (h : e.dig.length = 32) (h0 : e.gone = false) (a : Option Addr) (n c : Nat) (W : World) : (Instr.build 75 #[(0, .int .i64 e.kind), (1, .agg (bv e.dig).toArray), (2, .slice a n c)]).run Tryz.prog W = .ok (.agg (entC e a n c).toArray) W := by
 have := ent_build_g (fun i => e.dig.getD i 0) e.kind a n c W
 rw [← as_range h] at this
 rw [this]
 unfold entC
 rw [h0]
theorem ent_slice1 {e : Ent} (h : e.dig.length = 32) (h0 : e.gone = false) (a : Option Addr) (n c : Nat) (W : World) : (Instr.buildSlice 30 1 #[(0, .agg (entC e a n c).toArray)]).run Tryz.prog W = .ok (.slice (some ⟨W.heap.size, 0, none⟩) 1 1) (W.alloc (.cells (entC e a n c).toArray 75)) := by
 have := ent_slice_g (fun i => e.dig.getD i 0) e.kind a n c W
 rw [← as_range h] at this
 unfold entC at this ⊢
 rw [h0]
 exact this

def TxS (w : World) (a : Option Addr) (n c : Nat) (l : List ByteArray) : Prop := RS 1 (fun _ s r => r = [.string s]) (fun _ => True) w a n c l
theorem TxS.below {w w' : World} {a : Option Addr} {n c : Nat} {l : List ByteArray} (h : TxS w a n c l) (hb : Below w.heap.size w w') : TxS w' a n c l := RS.keep h (.below hb) fun _ _ hr => hr
theorem TxS.get {w : World} {a : Option Addr} {n c k : Nat} {l : List ByteArray} {s : ByteArray} (h : TxS w a n c l) (hs : l[k]? = some s) : ∃ b off, a = some ⟨b, off, none⟩ ∧ b < w.heap.size ∧ w.cell? ⟨b, off + k, none⟩ = some (.string s) := by
 obtain ⟨b, off, r, ea, hb, _, rfl, _, hrg⟩ := RS.get h hs
 have := hrg 0 _ rfl
 rw [Nat.mul_one, Nat.add_zero] at this
 exact ⟨b, off, ea, hb, this⟩
theorem okE_text {s : ByteArray} (h : s.size ≤ 1000000) : OkE (entT s) := ⟨Sha.tagged_length _ _, Sha.tagged_lt _ _, (by show (-9223372036854775808 : Int) ≤ 1; decide), (by show (1 : Int) ≤ 9223372036854775807; decide), by show (octets s).length ≤ _; rw [octets_length]; exact h⟩
def EntsPost (l : List Ent) (w : World) (e : Ending) (w' : World) : Prop := ∃ a c, e = .returned (.slice a l.length c) ∧ ES (fun b => w.heap.size ≤ b) w' a l.length c l ∧ Below w.heap.size w w'

set_option maxRecDepth 20000 in
set_option maxHeartbeats 4000000 in
theorem ents32_any (a : Option Addr) (n c : Nat) (l : List ByteArray) (hn : n ≤ 90000) (hsz : ∀ s ∈ l, s.size ≤ 1000000) (w : World) (HT : Tabs w) (H : TxS w a n c l) :
 Calls Tryz.prog 47 #[.slice a n c] w (EntsPost (l.map entT) w) := by
 have H' := Lib.hid H; have HT' := Lib.hid HT
 have hlen := H.len
 have n63 : (n : Int) ≤ 90000 := by omega
 clear H HT
 obtain ⟨X, hX⟩ : ∃ X, X = EntsPost (l.map entT) w := ⟨_, rfl⟩
 have hfin : Hid (∀ v W, OwnE w W v (l.map entT) → Below w.heap.size w W → X (.returned v) W) := fun v W hO hb => by
  obtain ⟨a, c, rfl, hE⟩ := hO.es (by rw [List.length_map]; omega)
  rw [hX]
  exact ⟨a, c, rfl, hE, hb⟩
 rw [← hX]
 clear hX
 go_enter Tryz.func47, Tryz.ntmps47
 go_wp2_with fail
 go_loopw [3, 4] (fun sl i wr => ∃ (k : Nat) (sv : Value), k ≤ n ∧ i = .int .i64 k ∧ sl = sv ∧ Hid (OwnE w wr sv ((l.take k).map entT)) ∧ Hid (Below w.heap.size w wr)) (fun _ i _ => n - (intOf i).toNat)
 case atStart => exact ⟨0, _, Nat.zero_le _, rfl, rfl, ownE_nil w _, Below.refl _ _⟩
 case round =>
  obtain ⟨k, sv, hk, rfl, rfl, hO, hbw⟩ := hrel
  by_cases hklt : k < n
  case pos =>
   obtain ⟨s, hx⟩ : ∃ s, l[k]? = some s := ⟨_, List.getElem?_eq_getElem (by omega)⟩
   have hss : s.size ≤ 1000000 := hsz s (List.mem_of_getElem? hx)
   obtain ⟨b, off, rfl, hbl, hc⟩ := H'.out.get hx
   have hcell : Hid (∀ wz, Below w.heap.size w wz → wz.cell? ⟨b, off + k, none⟩ = some (.string s)) := fun wz h => (h.cell (p := ⟨b, off + k, none⟩) hbl).trans hc
   have hC0 : Below wr.heap.size wr wr.drew := (Below.refl _ wr).drew
   have hsb := Lib.hid (fun W => str_bytes W s (by omega))
   have hdg := Lib.hid (fun (a : Option Addr) (c : Nat) (W : World) (hb : Below wr.heap.size wr W) (H : BS W a s.size c (octets s)) => digest_any 1 ⟨by decide, by decide⟩ a s.size c (octets s) W (HT'.out.below (hbw.out.trans (hb.mono hbw.out.size))) (.inl H) (by omega))
   have hx' := Lib.hid hx
   have k0 : (0 : Int) ≤ (k : Int) := by omega
   have k1 : (k : Int) < (n : Int) := by omega
   have hne : ∀ g, wr.heap.size ≤ g → w.heap.size ≤ g ∧ u3.ownBlock ≠ some g := fun g hg => ⟨Nat.le_trans hbw.out.size hg, fun e => by obtain ⟨_, ho, _⟩ := hO.out; have := (World.ownsRow.lt ho g e).2; omega⟩
   have hdl : (entT s).dig.length = 32 := Sha.tagged_length _ _
   have hnx : Hid (∀ W g cap, BS W (some ⟨g, 0, none⟩) s.size cap (octets s) → wr.heap.size ≤ g → Below wr.heap.size wr W → ∃ v' W', (∀ ty, (Builtin.append_ #[30, 30] ty #[u3, .slice (some ⟨W.heap.size, 0, none⟩) 1 1]).run Tryz.prog (W.alloc (.cells (entC (entT s) (some ⟨g, 0, none⟩) s.size cap).toArray 75)) = .ok v' W') ∧ OwnE w W' v' ((l.take (k + 1)).map entT) ∧ Below w.heap.size w W') := fun W g cap hB hg hb => by
    have := append_en (hO.out.below hb) (hbw.out.trans (hb.mono hbw.out.size)) (okE_text hss) (a := some ⟨g, 0, none⟩) (n := s.size) (c := cap) (.inl ⟨hB, fun ad e => by cases e; exact hne g hg⟩) (by rw [List.length_map, List.length_take]; omega)
    rwa [show (l.take k).map entT ++ [entT s] = (l.take (k + 1)).map entT from by rw [List.take_succ_eq_append_getElem (List.getElem?_eq_some_iff.1 hx).1, List.map_append, (List.getElem?_eq_some_iff.1 hx).2]; rfl] at this
   clear hne hc hO hx
   go_upto_region 5 with fail
   refine wp_region_held_drew (S := fun wz => Below w.heap.size w wz) (by kernel_rfl) (hbw.out.trans (hC0.mono hbw.out.size)) (fun hHeld => ?_)
   refine tX 0 rfl (fun wz hSw => hcell.out _ hSw) hHeld ?_
   refine tX 1 rfl (fun wz hSw => hcell.out _ hSw) hHeld ?_
   refine tX 2 rfl (fun wz hSw => hcell.out _ hSw) hHeld ?_
   refine tX 3 rfl (fun wz hSw => hcell.out _ hSw) hHeld ?_
   refine tX 4 rfl (fun wz hSw => hcell.out _ hSw) hHeld ?_
   refine tX 7 rfl (fun wz hSw => hcell.out _ hSw) hHeld ?_
   refine tX 8 rfl (fun wz hSw => hcell.out _ hSw) hHeld ?_
   refine tX 9 rfl (fun wz hSw => hcell.out _ hSw) hHeld ?_
   refine tX 10 rfl (fun wz hSw => hcell.out _ hSw) hHeld ?_
   refine rd (rs := [5, 11]) ?_
   refine AllReadyH.cons (o := ⟨some 16, .convert 9 71 (.tmp 15), 71, "law.go:16", #[⟨4, .data⟩], none⟩) rfl (fun K hK => ?_) (AllReadyH.cons (o := ⟨some 22, .convert 9 71 (.tmp 21), 71, "law.go:16", #[⟨10, .data⟩], none⟩) rfl (fun K hK => ?_) (AllReadyH.nil))
   · rw [if_pos (by rfl)]
     obtain ⟨cap1, W1, hr1, hbs1, hbl1⟩ := hsb.out (wr.drew)
     refine wp_convert_run 9 71 _ rfl (.string s) rfl hr1 ?_
     have hC1 : Below wr.heap.size wr W1 := hC0.trans (hbl1.mono hC0.size)
     refine hK.out _ _ (hbw.out.trans (hC1.mono hbw.out.size)) (fun hHeld => ?_)
     clear hK K hr1
     try simp only [Act.put, sA, s0, s1]
     refine rd (rs := [6, 11]) ?_
     refine AllReadyH.cons (o := ⟨some 17, .call { callee := .value (.func 71), args := #[Operand.const (Value.int .i64 1), .tmp 16], argTypes := #[3, 71] }, 32, "law.go:16", #[⟨5, .data⟩], none⟩) rfl (fun K hK => ?_) (AllReadyH.cons (o := ⟨some 22, .convert 9 71 (.tmp 21), 71, "law.go:16", #[⟨10, .data⟩], none⟩) rfl (fun K hK => ?_) (AllReadyH.nil))
     · rw [if_pos (by rfl)]
       show Oper.wp _ _ _ _ K _
       go_simp
       go_at_call 71
       refine (hdg.out _ _ _ hC1 hbs1).mono ?_
       rintro e W2 ⟨rfl, hbl2⟩
       have hC2 : Below wr.heap.size wr W2 := hC1.trans (hbl2.mono hC1.size)
       refine hK.out _ _ (hbw.out.trans (hC2.mono hbw.out.size)) (fun hHeld => ?_)
       clear hK K
       try simp only [Act.put, sA, s0, s1]
       refine rd (rs := [11]) ?_
       refine tR rfl (fun K hK => ?_) (rn)
       obtain ⟨cap3, W3, hr3, hbs3, hbl3⟩ := hsb.out (W2)
       refine wp_convert_run 9 71 _ rfl (.string s) rfl hr3 ?_
       have hC3 : Below wr.heap.size wr W3 := hC2.trans (hbl3.mono hC2.size)
       refine hK.out _ _ (hbw.out.trans (hC3.mono hbw.out.size)) (fun hHeld => ?_)
       clear hK K hr3
       try simp only [Act.put, sA, s0, s1]
       refine tG 12 rfl (hold_build (by rfl) _ _ rfl #[(0, .int .i64 1), (1, .agg (bv (entryD 1 (octets s))).toArray), (2, .slice (some ⟨W2.heap.size, 0, none⟩) s.size cap3)] (by simp only [List.map_toArray, List.map_cons, List.map_nil]; rfl) (fun W => ent_build (e := entT s) hdl rfl (some ⟨W2.heap.size, 0, none⟩) s.size cap3 W)) hHeld ?_
       refine tO 13 rfl (fun K hK => ?_)
       refine wp_buildSlice_run 30 1 _ rfl #[(0, .agg (entC (entT s) (some ⟨W2.heap.size, 0, none⟩) s.size cap3).toArray)] (by simp only [List.map_toArray, List.map_cons, List.map_nil]; rfl) (ent_slice1 (e := entT s) hdl rfl _ _ _ _) ?_
       refine hK.out _ _ (hHeld.alloc hHeld.size _) (fun hHeld => ?_)
       clear hK K
       try simp only [Act.put, sA, s0, s1]
       obtain ⟨v9, W9, hr9, hO9, hb9⟩ := hnx.out W3 W2.heap.size cap3 hbs3 hC2.size hC3
       refine tO 14 rfl (fun K hK => ?_)
       refine Lib.wp_append_run _ _ _ _ _ rfl _ _ rfl rfl _ _ (hr9 _) ?_
       refine hK.out _ _ hb9 (fun hHeld => ?_)
       clear hK K
       try simp only [Act.put, sA, s0, s1]
       refine tQ 15 rfl hHeld ?_
       refine wpAnyH_done (by kernel_rfl) ?_ _
       clear hHeld
       go_wp2_with fail
       go_roundw
       case rel => exact ⟨k + 1, v9, by omega, by go_num, rfl, hO9, hb9⟩
       case measure => simp [intOf]; omega
     · rw [if_pos (by rfl)]
       obtain ⟨cap2, W2, hr2, hbs2, hbl2⟩ := hsb.out (W1)
       refine wp_convert_run 9 71 _ rfl (.string s) rfl hr2 ?_
       have hC2 : Below wr.heap.size wr W2 := hC1.trans (hbl2.mono hC1.size)
       refine hK.out _ _ (hbw.out.trans (hC2.mono hbw.out.size)) (fun hHeld => ?_)
       clear hK K hr2
       try simp only [Act.put, sA, s0, s1]
       have hbs1b := hbs1.below hbl2
       have hg2 := hC1.size
       refine rd (rs := [6]) ?_
       refine tR rfl (fun K hK => ?_) (rn)
       go_simp
       go_at_call 71
       refine (hdg.out _ _ _ hC2 hbs1b).mono ?_
       rintro e W3 ⟨rfl, hbl3⟩
       have hC3 : Below wr.heap.size wr W3 := hC2.trans (hbl3.mono hC2.size)
       refine hK.out _ _ (hbw.out.trans (hC3.mono hbw.out.size)) (fun hHeld => ?_)
       clear hK K
       try simp only [Act.put, sA, s0, s1]
       refine tG 12 rfl (hold_build (by rfl) _ _ rfl #[(0, .int .i64 1), (1, .agg (bv (entryD 1 (octets s))).toArray), (2, .slice (some ⟨W1.heap.size, 0, none⟩) s.size cap2)] (by simp only [List.map_toArray, List.map_cons, List.map_nil]; rfl) (fun W => ent_build (e := entT s) hdl rfl (some ⟨W1.heap.size, 0, none⟩) s.size cap2 W)) hHeld ?_
       refine tO 13 rfl (fun K hK => ?_)
       refine wp_buildSlice_run 30 1 _ rfl #[(0, .agg (entC (entT s) (some ⟨W1.heap.size, 0, none⟩) s.size cap2).toArray)] (by simp only [List.map_toArray, List.map_cons, List.map_nil]; rfl) (ent_slice1 (e := entT s) hdl rfl _ _ _ _) ?_
       refine hK.out _ _ (hHeld.alloc hHeld.size _) (fun hHeld => ?_)
       clear hK K
       try simp only [Act.put, sA, s0, s1]
       obtain ⟨v9, W9, hr9, hO9, hb9⟩ := hnx.out W3 W1.heap.size cap2 (hbs2.below hbl3) hg2 hC3
       refine tO 14 rfl (fun K hK => ?_)
       refine Lib.wp_append_run _ _ _ _ _ rfl _ _ rfl rfl _ _ (hr9 _) ?_
       refine hK.out _ _ hb9 (fun hHeld => ?_)
       clear hK K
       try simp only [Act.put, sA, s0, s1]
       refine tQ 15 rfl hHeld ?_
       refine wpAnyH_done (by kernel_rfl) ?_ _
       clear hHeld
       go_wp2_with fail
       go_roundw
       case rel => exact ⟨k + 1, v9, by omega, by go_num, rfl, hO9, hb9⟩
       case measure => simp [intOf]; omega
   · rw [if_pos (by rfl)]
     obtain ⟨cap1, W1, hr1, hbs1, hbl1⟩ := hsb.out (wr.drew)
     refine wp_convert_run 9 71 _ rfl (.string s) rfl hr1 ?_
     have hC1 : Below wr.heap.size wr W1 := hC0.trans (hbl1.mono hC0.size)
     refine hK.out _ _ (hbw.out.trans (hC1.mono hbw.out.size)) (fun hHeld => ?_)
     clear hK K hr1
     try simp only [Act.put, sA, s0, s1]
     refine rd (rs := [5]) ?_
     refine tR rfl (fun K hK => ?_) (rn)
     obtain ⟨cap2, W2, hr2, hbs2, hbl2⟩ := hsb.out (W1)
     refine wp_convert_run 9 71 _ rfl (.string s) rfl hr2 ?_
     have hC2 : Below wr.heap.size wr W2 := hC1.trans (hbl2.mono hC1.size)
     refine hK.out _ _ (hbw.out.trans (hC2.mono hbw.out.size)) (fun hHeld => ?_)
     clear hK K hr2
     try simp only [Act.put, sA, s0, s1]
     refine rd (rs := [6]) ?_
     refine tR rfl (fun K hK => ?_) (rn)
     go_simp
     go_at_call 71
     refine (hdg.out _ _ _ hC2 hbs2).mono ?_
     rintro e W3 ⟨rfl, hbl3⟩
     have hC3 : Below wr.heap.size wr W3 := hC2.trans (hbl3.mono hC2.size)
     refine hK.out _ _ (hbw.out.trans (hC3.mono hbw.out.size)) (fun hHeld => ?_)
     clear hK K
     try simp only [Act.put, sA, s0, s1]
     refine tG 12 rfl (hold_build (by rfl) _ _ rfl #[(0, .int .i64 1), (1, .agg (bv (entryD 1 (octets s))).toArray), (2, .slice (some ⟨wr.drew.heap.size, 0, none⟩) s.size cap1)] (by simp only [List.map_toArray, List.map_cons, List.map_nil]; rfl) (fun W => ent_build (e := entT s) hdl rfl (some ⟨wr.drew.heap.size, 0, none⟩) s.size cap1 W)) hHeld ?_
     refine tO 13 rfl (fun K hK => ?_)
     refine wp_buildSlice_run 30 1 _ rfl #[(0, .agg (entC (entT s) (some ⟨wr.drew.heap.size, 0, none⟩) s.size cap1).toArray)] (by simp only [List.map_toArray, List.map_cons, List.map_nil]; rfl) (ent_slice1 (e := entT s) hdl rfl _ _ _ _) ?_
     refine hK.out _ _ (hHeld.alloc hHeld.size _) (fun hHeld => ?_)
     clear hK K
     try simp only [Act.put, sA, s0, s1]
     obtain ⟨v9, W9, hr9, hO9, hb9⟩ := hnx.out W3 wr.drew.heap.size cap1 ((hbs1.below hbl2).below hbl3) (Nat.le_refl _) hC3
     refine tO 14 rfl (fun K hK => ?_)
     refine Lib.wp_append_run _ _ _ _ _ rfl _ _ rfl rfl _ _ (hr9 _) ?_
     refine hK.out _ _ hb9 (fun hHeld => ?_)
     clear hK K
     try simp only [Act.put, sA, s0, s1]
     refine tQ 15 rfl hHeld ?_
     refine wpAnyH_done (by kernel_rfl) ?_ _
     clear hHeld
     go_wp2_with fail
     go_roundw
     case rel => exact ⟨k + 1, v9, by omega, by go_num, rfl, hO9, hb9⟩
     case measure => simp [intOf]; omega
  case neg =>
   obtain rfl : k = n := by omega
   rw [List.take_of_length_le (by omega)] at hO
   have hf := Lib.hid (hfin.out _ _ hO.out hbw.out)
   clear hfin hO
   go_wp2_with fail
   exact hf.out

set_option maxRecDepth 20000 in
set_option maxHeartbeats 4000000 in
theorem digs32_any (K : Nat → Prop) (a : Option Addr) (n c : Nat) (l : List Ent) (w : World) (H : ES K w a n c l) :
 Calls Tryz.prog 48 #[.slice a n c] w (ColPost (l.map (·.dig)) w) := by
 have H' := Lib.hid H
 have hlen := H.rs.len
 have hbd := H.bd
 have n63 : (n : Int) ≤ 100000 := by omega
 clear H
 obtain ⟨X, hX⟩ : ∃ X, X = ColPost (l.map (·.dig)) w := ⟨_, rfl⟩
 have hfin : Hid (∀ v W, OwnD w W v (l.map (·.dig)) → Below w.heap.size w W → X (.returned v) W) := fun v W hO hb => by
  obtain ⟨a, c, rfl, hD⟩ := hO.ds
  rw [hX]
  exact ⟨a, c, rfl, hD, hb⟩
 rw [← hX]
 clear hX
 go_enter Tryz.func48, Tryz.ntmps48
 go_wp2_with fail
 go_loopw [3, 4] (fun sl i wr => ∃ (k : Nat) (sv : Value), k ≤ n ∧ i = .int .i64 k ∧ sl = sv ∧ Hid (OwnD w wr sv ((l.take k).map (·.dig))) ∧ Hid (Below w.heap.size w wr)) (fun _ i _ => n - (intOf i).toNat)
 case atStart => exact ⟨0, _, Nat.zero_le _, rfl, rfl, ⟨World.ownsRow_nil w _ _ _, fun _ h => by cases h⟩, Below.refl _ _⟩
 case round =>
  obtain ⟨k, sv, hk, rfl, rfl, hO, hbw⟩ := hrel
  by_cases hklt : k < n
  case pos =>
   obtain ⟨x, hx⟩ : ∃ x, l[k]? = some x := ⟨_, List.getElem?_eq_getElem (by omega)⟩
   obtain ⟨b, off, r, rfl, hbl, _, ⟨ho, ea, en, ec, rfl, _⟩, hrl, hrg⟩ := (RS.keep (R' := EV K) H'.out.rs (.below hbw.out) fun e r ⟨h1, a, n, c, h2, h3⟩ => ⟨h1, a, n, c, h2, h3.keep (.below hbw.out)⟩).get hx
   have hdr := Lib.hid (EntR.of hrg ho.dig).dig
   have hdi : Hid ((Tryz.prog.info? 32).map (·.size) = some (bv x.dig).length) := by show _ = _; rw [bv_length, ho.dig]; exact size35
   have hdl : ((l.take k).map (·.dig)).length + 1 ≤ 1000000000000 := by rw [List.length_map, List.length_take]; omega
   obtain ⟨v', W7, hr7, hO7, hb7⟩ := append_dg (d := x.dig) hO.out hbw.out ⟨ho.dig, ho.lt⟩ hdl
   rw [show (l.take k).map (·.dig) ++ [x.dig] = (l.take (k + 1)).map (·.dig) from by rw [List.take_succ_eq_append_getElem (List.getElem?_eq_some_iff.1 hx).1, List.map_append, (List.getElem?_eq_some_iff.1 hx).2]; rfl] at hO7
   have hr7' := Lib.hid hr7; have hO7' := Lib.hid hO7; have hb7' := Lib.hid hb7
   have hds := dig_slice1 ho.dig wr
   have k0 : (0 : Int) ≤ (k : Int) := by omega
   have k1 : (k : Int) < (n : Int) := by omega
   clear hr7 hO7 hb7 hO hbw hrg hrl ho hdl hx
   go_wp2_with (first
    | (refine wpList_load_g (by rfl) 32 _ (by rfl) b (off + k * 35 + 1) (by rfl) (bv x.dig) _ hdr.out Tryz.underlying32 (by rfl) hdi.out ?_)
     | (refine wpList_buildSlice_run (by rfl) 47 1 _ rfl #[(0, .agg (bv x.dig).toArray)] (by simp only [List.map_toArray, List.map_cons, List.map_nil]; rfl) hds ?_)
     | (at_builtin; refine Lib.wpList_append_run _ rfl _ _ _ _ rfl _ _ rfl rfl _ _ (hr7'.out _) ?_))
   go_roundw
   case rel => exact ⟨k + 1, v', by omega, by go_num, rfl, hO7', hb7'⟩
   case measure => simp [intOf]; omega
  case neg =>
   obtain rfl : k = n := by omega
   rw [List.take_of_length_le (by omega)] at hO
   have hf := Lib.hid (hfin.out _ _ hO.out hbw.out)
   clear hfin hO
   go_wp2_with fail
   exact hf.out

theorem sizeS3 : (Tryz.prog.info? 24).map (·.size) = some 3 := by kernel_rfl
def OpenB (id priv fo : Int) : Bool := decide (Sto.newE id priv = 0) && keyOk priv && decide (0 ≤ fo) && decide (fo < 16)
def Open32Post (id priv fo : Int) (w : World) (e : Ending) (w' : World) : Prop :=
 ∃ i p q, e = .returned (.tuple #[.agg #[.int .i64 i, .int .i64 p, .slice none 0 0], .int .i64 q, .bool (OpenB id priv fo)]) ∧ (OpenB id priv fo = true → i = id ∧ p = priv ∧ q = pubB 4 priv) ∧ Below w.heap.size w w'
set_option maxRecDepth 20000 in
set_option maxHeartbeats 4000000 in
theorem open32_any (id priv fo : Int) (_hp : I64 priv) (w : World) :
 Calls Tryz.prog 46 #[.int .i64 id, .int .i64 priv, .int .i64 fo] w (Open32Post id priv fo w) := by
 obtain ⟨tb, htb⟩ : ∃ tb, Hid (w.heap.size = tb) := ⟨_, rfl⟩
 have hN := Lib.hid (fun W => New_any id priv W)
 have hP := Lib.hid (fun W => Public_any priv W)
 obtain ⟨X, hX⟩ : ∃ X, X = Open32Post id priv fo w := ⟨_, rfl⟩
 rw [← hX]
 have hX' := Lib.hid hX
 clear hX
 go_enter Tryz.func46, Tryz.ntmps46
 obtain ⟨q0, hq0⟩ : ∃ q0, Hid (Sto.newE id priv = q0) := ⟨_, rfl⟩
 obtain ⟨i, p, hip, hip2⟩ : ∃ i p, (if Sto.newE id priv = 0 then stV id priv else stV 0 0) = .agg #[.int .i64 i, .int .i64 p, .slice none 0 0] ∧ Hid (q0 = 0 → i = id ∧ p = priv) := by
  rw [hq0.out]
  by_cases h : q0 = 0
  · rw [if_pos h]; exact ⟨id, priv, rfl, fun _ => ⟨rfl, rfl⟩⟩
  · rw [if_neg h]; exact ⟨0, 0, rfl, fun e => absurd e h⟩
 unfold NewPost at hN
 rw [hip, hq0.out] at hN
 clear hip
 obtain ⟨W3, hQ⟩ : ∃ V, V = V ∧ True := ⟨0, rfl, trivial⟩
 clear hQ W3
 obtain ⟨pb, hpb⟩ : ∃ pb, Hid (pubB 4 priv = pb) := ⟨_, rfl⟩
 have hfin : Hid (∀ (q : Int) (B : Bool) W, B = OpenB id priv fo → (OpenB id priv fo = true → q = pb) → Below w.heap.size w W → X (.returned (.tuple #[.agg #[.int .i64 i, .int .i64 p, .slice none 0 0], .int .i64 q, .bool B])) W) := fun q B W h1 h2 hb => by
  rw [hX'.out, h1]
  refine ⟨i, p, q, rfl, fun h => ?_, hb⟩
  have h0 : q0 = 0 := by
   unfold OpenB at h
   simp only [Bool.and_eq_true, decide_eq_true_eq] at h
   rw [← hq0.out]; exact h.1.1.1
  exact ⟨(hip2.out h0).1, (hip2.out h0).2, by rw [hpb.out]; exact h2 h⟩
 have hOB : Hid (OpenB id priv fo = (decide (q0 = 0) && keyOk priv && decide (0 ≤ fo) && decide (fo < 16))) := by show _ = _; rw [← hq0.out]; rfl
 have hP2 : Hid (∀ W, Calls Tryz.prog 67 #[.int .i64 priv] W (RetII (if keyOk priv then (pb, 0) else (0, 50)) W)) := fun W => by have := hP.out W; unfold publicK at this; rw [hpb.out] at this; exact this
 clear hP hq0 hX' hip2 hpb
 generalize OpenB id priv fo = OB at *
 generalize keyOk priv = kb at *
 go_wp2_with fail
 refine (hN.out _).mono ?_
 rintro e w1 ⟨rfl, hb1⟩
 have hB6 : Hid (Blk w1 tb 24 [.int .i64 0, .int .i64 0, .slice none 0 0]) := by
  have := (Blk.new w 24 [.int .i64 0, .int .i64 0, .slice none 0 0]).below hb1 (Blk.new w 24 [.int .i64 0, .int .i64 0, .slice none 0 0]).lt
  rwa [htb.out] at this
 have hb1' : Hid (Below w.heap.size w w1) := ((Below.refl _ w).alloc (Nat.le_refl _) _).trans (hb1.mono (by simp))
 obtain ⟨V1, hP1⟩ : ∃ V, Hid (PutR 24 (w1.alloc (.cells ([.int .i64 0, .int .i64 0, .slice none 0 0] : List Value).toArray 24)) V w1.heap.size 24 [.int .i64 i, .int .i64 p, .slice none 0 0]) := put_row (Blk.new w1 24 [.int .i64 0, .int .i64 0, .slice none 0 0]) rfl sizeS3 (by intro u hu; simp only [List.mem_cons, List.not_mem_nil, or_false] at hu; rcases hu with rfl | rfl | rfl <;> rfl)
 have hst := below_grown ((Below.refl _ w1).alloc (Nat.le_refl _) _) hP1.out.grown (by simp) (Nat.le_refl _)
 have hb1 := Lib.hid (hb1'.out.trans (hst.mono hb1'.out.size))
 have hB6' := Lib.hid (hB6.out.below hst hB6.out.lt)
 have hB9 := Lib.hid hP1.out.blk
 have ht9 : tb < w1.heap.size := hB6.out.lt
 clear hN hst hB6 hb1'
 go_wp2_with (first
  | (refine wpList_store_mid (by rfl) 24 _ _ (by rfl) w1.heap.size 0 ([.int .i64 i, .int .i64 p, .slice none 0 0] : List Value).toArray (by rfl) (by rfl) hP1.out.there hP1.out.info (by simpa using hP1.out.one) ?_
     generalize hWq : World.setCells _ _ _ _ = Wa
     obtain rfl : V1 = Wa := by rw [← hWq]; exact hP1.out.eq
     clear hWq))
 clear hP1
 refine (hP2.out _).mono ?_
 rintro e w2 ⟨rfl, hb2⟩
 have hB6 := Lib.hid (hB6'.out.below hb2 hB6'.out.lt)
 have hBx := Lib.hid (hB9.out.below hb2 hB9.out.lt)
 have hbw := Lib.hid (hb1.out.trans (hb2.mono hb1.out.size))
 obtain ⟨V3, hP3⟩ : ∃ V, Hid (PutR 24 w2 V tb 24 [.int .i64 i, .int .i64 p, .slice none 0 0]) := put_row hB6.out rfl sizeS3 (by intro u hu; simp only [List.mem_cons, List.not_mem_nil, or_false] at hu; rcases hu with rfl | rfl | rfl <;> rfl)
 have hb3 := Lib.hid (below_grown hbw.out hP3.out.grown hbw.out.size (Nat.le_of_eq htb.out))
 have hR3 := Lib.hid hP3.out.blk
 have c0 := hBx.out.at_ (i := 0) rfl
 have c1 := hBx.out.at_ (i := 1) rfl
 have c2 := hBx.out.at_ (i := 2) rfl
 clear hb2 hB6' hB9 hb1 hP2 hbw ht9 hBx
 rw [htb.out]
 clear htb
 have leaf : Hid (∀ (q : Int) (B : Bool), B = OB → (OB = true → q = pb) → X (.returned (.tuple #[.agg #[.int .i64 i, .int .i64 p, .slice none 0 0], .int .i64 q, .bool B])) V3) := fun q B h1 h2 => hfin.out q B V3 h1 h2 hb3.out
 clear hfin hb3
 generalize w1.heap.size = t9 at *

 by_cases hq : q0 = 0
 case neg =>
  have g1 : (q0 == 0) = false := by simpa using hq
  have hOf : Hid (OB = false) := by show _ = _; rw [hOB.out, decide_eq_false hq]; rfl
  clear hq
  cases kb
  · go_wp2_with (first
     | (refine wpList_store_mid (by rfl) 24 _ _ (by rfl) tb 0 ([.int .i64 i, .int .i64 p, .slice none 0 0] : List Value).toArray (by rfl) (by rfl) hP3.out.there hP3.out.info (by simpa using hP3.out.one) ?_
        generalize hWq : World.setCells _ _ _ _ = Wa
        obtain rfl : V3 = Wa := by rw [← hWq]; exact hP3.out.eq
        clear hWq))
    exact ret_cell_tmp_tmp (p := 6) (u := 7) (u2 := 8) rfl hR3.out Tryz.underlying24 rfl sizeS3 rfl rfl rfl rfl (leaf.out 0 false hOf.out.symm (fun e => Bool.noConfusion (hOf.out.symm.trans e)))
  · go_wp2_with (first
     | (refine wpList_store_mid (by rfl) 24 _ _ (by rfl) tb 0 ([.int .i64 i, .int .i64 p, .slice none 0 0] : List Value).toArray (by rfl) (by rfl) hP3.out.there hP3.out.info (by simpa using hP3.out.one) ?_
        generalize hWq : World.setCells _ _ _ _ = Wa
        obtain rfl : V3 = Wa := by rw [← hWq]; exact hP3.out.eq
        clear hWq))
    exact ret_cell_tmp_tmp (p := 6) (u := 7) (u2 := 8) rfl hR3.out Tryz.underlying24 rfl sizeS3 rfl rfl rfl rfl (leaf.out pb false hOf.out.symm (fun e => Bool.noConfusion (hOf.out.symm.trans e)))
 case pos =>
  subst hq
  cases kb
  · have hOf : Hid (OB = false) := by show _ = _; rw [hOB.out]; rfl
    go_wp2_with (first
     | (refine wpList_store_mid (by rfl) 24 _ _ (by rfl) tb 0 ([.int .i64 i, .int .i64 p, .slice none 0 0] : List Value).toArray (by rfl) (by rfl) hP3.out.there hP3.out.info (by simpa using hP3.out.one) ?_
        generalize hWq : World.setCells _ _ _ _ = Wa
        obtain rfl : V3 = Wa := by rw [← hWq]; exact hP3.out.eq
        clear hWq))
    exact ret_cell_tmp_tmp (p := 6) (u := 7) (u2 := 8) rfl hR3.out Tryz.underlying24 rfl sizeS3 rfl rfl rfl rfl (leaf.out 0 false hOf.out.symm (fun e => Bool.noConfusion (hOf.out.symm.trans e)))
  · by_cases h0 : 0 ≤ fo
    case neg =>
     have hOf : Hid (OB = false) := by show _ = _; rw [hOB.out, decide_eq_false h0]; rfl
     have g2 : decide (0 ≤ fo) = false := decide_eq_false h0
     clear h0
     go_wp2_with (first
      | (refine wpList_store_mid (by rfl) 24 _ _ (by rfl) tb 0 ([.int .i64 i, .int .i64 p, .slice none 0 0] : List Value).toArray (by rfl) (by rfl) hP3.out.there hP3.out.info (by simpa using hP3.out.one) ?_
         generalize hWq : World.setCells _ _ _ _ = Wa
         obtain rfl : V3 = Wa := by rw [← hWq]; exact hP3.out.eq
         clear hWq))
     exact ret_cell_tmp_tmp (p := 6) (u := 7) (u2 := 8) rfl hR3.out Tryz.underlying24 rfl sizeS3 rfl rfl rfl rfl (leaf.out pb false hOf.out.symm (fun e => Bool.noConfusion (hOf.out.symm.trans e)))
    case pos =>
     have g2 : decide (0 ≤ fo) = true := decide_eq_true h0
     by_cases h1 : fo < 16
     case neg =>
      have hOf : Hid (OB = false) := by show _ = _; rw [hOB.out, decide_eq_false h1]; simp
      have g3 : decide (fo < 16) = false := decide_eq_false h1
      clear h0 h1
      go_wp2_with (first
       | (refine wpList_store_mid (by rfl) 24 _ _ (by rfl) tb 0 ([.int .i64 i, .int .i64 p, .slice none 0 0] : List Value).toArray (by rfl) (by rfl) hP3.out.there hP3.out.info (by simpa using hP3.out.one) ?_
          generalize hWq : World.setCells _ _ _ _ = Wa
          obtain rfl : V3 = Wa := by rw [← hWq]; exact hP3.out.eq
          clear hWq))
      exact ret_cell_tmp_tmp (p := 6) (u := 7) (u2 := 8) rfl hR3.out Tryz.underlying24 rfl sizeS3 rfl rfl rfl rfl (leaf.out pb false hOf.out.symm (fun e => Bool.noConfusion (hOf.out.symm.trans e)))
     case pos =>
      have hOt : Hid (OB = true) := by show _ = _; rw [hOB.out, decide_eq_true h1, decide_eq_true h0]; rfl
      have g3 : decide (fo < 16) = true := decide_eq_true h1
      clear h0 h1
      go_wp2_with (first
       | (refine wpList_store_mid (by rfl) 24 _ _ (by rfl) tb 0 ([.int .i64 i, .int .i64 p, .slice none 0 0] : List Value).toArray (by rfl) (by rfl) hP3.out.there hP3.out.info (by simpa using hP3.out.one) ?_
          generalize hWq : World.setCells _ _ _ _ = Wa
          obtain rfl : V3 = Wa := by rw [← hWq]; exact hP3.out.eq
          clear hWq))
      exact ret_cell_tmp_tmp (p := 6) (u := 7) (u2 := 8) rfl hR3.out Tryz.underlying24 rfl sizeS3 rfl rfl rfl rfl (leaf.out pb true hOt.out.symm (fun _ => rfl))
end Go.Proofs.YtnonfdcbnkdmcaaGreatDoor
namespace Go.Proofs.YtnonfdcbnkdmcaaGreatDoor
open Go.ChangeShapes Go.WideShapes Go.ChangeAt Go.RowKit Go.Joins Go.Mem

theorem own : ownKnob Tryz.prog.godebug = none := by kernel_rfl
theorem laidOut : laidOutB Tryz.prog = true := by kernel_rfl
theorem cellsU8 : Tryz.prog.cellsOf 5 = 1 := by kernel_rfl
theorem cellsU32 : Tryz.prog.cellsOf 209 = 1 := by kernel_rfl
theorem cellsInt : Tryz.prog.cellsOf 3 = 1 := by kernel_rfl
theorem cellsHead : Tryz.prog.cellsOf 36 = 37 := by kernel_rfl
theorem cellsSig : Tryz.prog.cellsOf 34 = 2 := by kernel_rfl
theorem wf_i64 {n : Int} (h : (Lit.int .i64 n).wf = true) : I64 n := by
 have := bounds_i64 h
 unfold I64; omega

section
variable {H : Type} {enc : TypeId × Value → H} {W : World} {spare held : Bool}

theorem one_at {cs : List Value} {i : Nat} {v : Value} (h : (cs.drop (i * 1)).take 1 = [v]) : cs[i]? = some v := by
 rw [Nat.mul_one] at h
 have := congrArg (·[0]?) h
 simpa using this

theorem open_digest {fuel : Nat} {cs : List Value} {x : DataW H × List MemPlace} (h : DataW.trod enc Tryz.prog W 0 (fun _ => true) true fuel 32 cs = some x) :
 ∃ D : List Nat, cs = bv D ∧ D.length = 32 ∧ ∀ u ∈ D, u < 256 := by
 obtain ⟨xs, m, _, _, hl, hn, he⟩ := DataW.trod_array Tryz.underlying32 h
 rw [cells35] at hl
 rw [cellsU8] at he
 have each : ∀ i, i < 32 → ∃ y : Nat, cs[i]? = some (.int .u8 (y : Int)) ∧ y < 256 := by
  intro i hi
  have h1 := he i hi
  rw [List.getElem?_eq_getElem (by omega)] at h1
  obtain ⟨a, e0, _, w0⟩ := DataW.trod_int Tryz.underlying5 h1
  have hb : 0 ≤ a ∧ a < 256 := by
   have h2 : IntKind.u8.min ≤ a ∧ a ≤ IntKind.u8.max := by simpa [Lit.wf] using w0
   have e1 : IntKind.u8.min = 0 := rfl
   have e2 : IntKind.u8.max = 255 := rfl
   omega
  exact ⟨a.toNat, by rw [one_at e0, Int.toNat_of_nonneg hb.1], by omega⟩
 obtain ⟨f, hf⟩ := Deep.choose_lt each
 refine ⟨(List.range 32).map f, ?_, by simp, fun u hu => ?_⟩
 · apply List.ext_getElem?
   intro i
   by_cases hi : i < 32
   · rw [(hf i hi).1]
     simp [bv, hi]
   · rw [List.getElem?_eq_none (by omega), List.getElem?_eq_none (by simp [bv]; omega)]
 · obtain ⟨i, hi, rfl⟩ := List.mem_map.1 hu
   exact (hf i (List.mem_range.1 hi)).2

theorem open_int1 {fuel : Nat} {cs : List Value} {x : DataW H × List MemPlace} (h : DataW.trod enc Tryz.prog W 0 (fun _ => true) true fuel 3 cs = some x) : ∃ a : Int, cs = [.int .i64 a] ∧ I64 a := by
 obtain ⟨a, e, _, w⟩ := DataW.trod_int Tryz.underlying3 h
 exact ⟨a, e, wf_i64 w⟩

theorem len_two : ∀ {l : List Value}, l.length = 2 → ∃ u v, l = [u, v]
 | [u, v], _ => ⟨u, v, rfl⟩
theorem drop_parts (cs : List Value) (i k j : Nat) (hj : i + k = j) : cs.drop i = (cs.drop i).take k ++ cs.drop j := by
 rw [← hj, ← List.drop_drop, List.take_append_drop]

theorem open_head {fuel : Nat} {cs : List Value} {x : DataW H × List MemPlace} (h : DataW.trod enc Tryz.prog W 0 (fun _ => true) true fuel 36 cs = some x) :
 ∃ (st fo no R S : Int) (D : List Nat), cs = headC st fo no D R S ∧ I64 st ∧ I64 fo ∧ I64 no ∧ I64 R ∧ I64 S ∧ D.length = 32 ∧ ∀ u ∈ D, u < 256 := by
 obtain ⟨xs, n, _, rfl, hl, hlen, hf⟩ := DataW.trod_struct Tryz.underlying36 h
 rw [cellsHead] at hl
 match xs, hlen with
 | [y0, y1, y2, y3, y4], _ =>
  have h0 : DataW.trod enc Tryz.prog W 0 (fun _ => true) true n 3 ((cs.drop 0).take (Tryz.prog.cellsOf 3)) = some y0 := hf 0 _ rfl
  rw [cellsInt] at h0
  have h1 : DataW.trod enc Tryz.prog W 0 (fun _ => true) true n 3 ((cs.drop 1).take (Tryz.prog.cellsOf 3)) = some y1 := hf 1 _ rfl
  rw [cellsInt] at h1
  have h2 : DataW.trod enc Tryz.prog W 0 (fun _ => true) true n 3 ((cs.drop 2).take (Tryz.prog.cellsOf 3)) = some y2 := hf 2 _ rfl
  rw [cellsInt] at h2
  have h3 : DataW.trod enc Tryz.prog W 0 (fun _ => true) true n 32 ((cs.drop 3).take (Tryz.prog.cellsOf 32)) = some y3 := hf 3 _ rfl
  rw [cells35] at h3
  have h4 : DataW.trod enc Tryz.prog W 0 (fun _ => true) true n 34 ((cs.drop 35).take (Tryz.prog.cellsOf 34)) = some y4 := hf 4 _ rfl
  rw [cellsSig] at h4
  obtain ⟨st, e0, i0⟩ := open_int1 h0
  obtain ⟨fo, e1, i1⟩ := open_int1 h1
  obtain ⟨no, e2, i2⟩ := open_int1 h2
  obtain ⟨D, e3, hD⟩ := open_digest h3
  obtain ⟨ys, n4, _, _, hl4, hlen4, hf4⟩ := DataW.trod_struct Tryz.underlying34 h4
  match ys, hlen4 with
  | [z0, z1], _ =>
   have g0 : DataW.trod enc Tryz.prog W 0 (fun _ => true) true n4 3 ((((cs.drop 35).take 2).drop 0).take (Tryz.prog.cellsOf 3)) = some z0 := hf4 0 _ rfl
   rw [cellsInt] at g0
   have g1 : DataW.trod enc Tryz.prog W 0 (fun _ => true) true n4 3 ((((cs.drop 35).take 2).drop 1).take (Tryz.prog.cellsOf 3)) = some z1 := hf4 1 _ rfl
   rw [cellsInt] at g1
   obtain ⟨R, e4, i4⟩ := open_int1 g0
   obtain ⟨S, e5, i5⟩ := open_int1 g1
   refine ⟨st, fo, no, R, S, D, ?_, i0, i1, i2, i4, i5, hD⟩
   have e45 : (cs.drop 35).take 2 = [.int .i64 R, .int .i64 S] := by
    clear h0 h1 h2 h3 h4 g0 g1 hf hf4 e0 e1 e2 e3
    rw [cellsSig] at hl4
    obtain ⟨u, v, huv⟩ := len_two hl4
    rw [huv] at e4 e5 ⊢
    simp at e4 e5
    rw [e4, e5]
   have q37 : cs.drop 37 = [] := List.drop_eq_nil_of_le (by omega)
   have q35 : cs.drop 35 = [.int .i64 R, .int .i64 S] := by rw [drop_parts cs 35 2 37 rfl, e45, q37]; rfl
   have q3 : cs.drop 3 = bv D ++ [.int .i64 R, .int .i64 S] := by rw [drop_parts cs 3 32 35 rfl, e3, q35]
   have q2 : cs.drop 2 = [.int .i64 no] ++ (bv D ++ [.int .i64 R, .int .i64 S]) := by rw [drop_parts cs 2 1 3 rfl, e2, q3]
   have q1 : cs.drop 1 = [.int .i64 fo] ++ ([.int .i64 no] ++ (bv D ++ [.int .i64 R, .int .i64 S])) := by rw [drop_parts cs 1 1 2 rfl, e1, q2]
   have q0 : cs.drop 0 = [.int .i64 st] ++ ([.int .i64 fo] ++ ([.int .i64 no] ++ (bv D ++ [.int .i64 R, .int .i64 S]))) := by rw [drop_parts cs 0 1 1 rfl, e0, q1]
   exact q0

theorem trod_u32s {t : TypeId} {k fuel : Nat} {l : List Nat} {cs : List Value} {p : List MemPlace} (ht : Tryz.prog.underlying t = some (.array k 209)) (hk : l.length = k)
 (h : DataW.trod enc Tryz.prog W 0 (fun _ => spare) held fuel t cs = some (.agg (l.map fun (x : Nat) => .lit (.int .u32 (x : Int))), p)) : ∀ (i : Nat) x, l[i]? = some x → cs[i]? = some (.int .u32 ((x : Nat) : Int)) := by
 obtain ⟨xs, m, _, hx, hl, hn, he⟩ := DataW.trod_array ht h
 rw [cellsU32] at he
 intro i x hi
 have hik := (List.getElem?_eq_some_iff.1 hi).1
 have h1 := he i (by omega)
 rw [List.getElem?_eq_getElem (by omega)] at h1
 obtain ⟨a, e0, e1, _⟩ := DataW.trod_int Tryz.underlying209 h1
 rw [one_at e0]
 simp only [Prod.mk.injEq, DataW.agg.injEq] at hx
 have h2 := congrArg (·[i]?) hx.1
 simp only [List.getElem?_map, hi, Option.map_some] at h2
 rw [List.getElem?_eq_getElem (by omega)] at h2
 simp only [Option.map_some, Option.some.injEq] at h2
 rw [e1] at h2
 simp only [DataW.lit.injEq, Lit.int.injEq, true_and] at h2
 rw [h2]
end

theorem gStart : Tryz.prog.globalNamed "chartroom/digest.start" = some 0 := by kernel_rfl
theorem gNums : Tryz.prog.globalNamed "chartroom/digest.numbers" = some 1 := by kernel_rfl
theorem datStart {H : Type} : (Rows.laid_chartroom_digest_start : DataW H) = .agg ((stv Sha.start).map fun (x : Nat) => .lit (.int .u32 (x : Int))) := rfl
theorem datNums {H : Type} : (Rows.laid_chartroom_digest_numbers : DataW H) = .agg (Sha.K.map fun (x : Nat) => .lit (.int .u32 (x : Int))) := rfl
abbrev laid2 {H : Type} : List (String × DataW H) := [("chartroom/digest.start", Rows.laid_chartroom_digest_start), ("chartroom/digest.numbers", Rows.laid_chartroom_digest_numbers)]

theorem door_met (os : Os) (args : Array Value) : laidMetH Tryz.prog laid2 ((World.doorLaid Tryz.prog 400 os).forCall (fun _ _ => 0) ⟨#[], args, []⟩).memory :=
 laidMetH_of_parts3 (fuel := 8) (laidMet_of_run' 8 (by kernel_rfl) (by kernel_rfl)) (by kernel_rfl) (by kernel_rfl)

theorem tabs_of_laid {W : World} (h : laidMetH Tryz.prog laid2 W) : Tabs W := by
 rw [MakeChecks.laidMetH_plain _ _ _ (by kernel_rfl)] at h
 obtain ⟨ps, ⟨g0, t0, cs0, f0, p0, q0, hg0, ht0, hv0, hd0, ⟨g1, t1, cs1, f1, p1, q1, hg1, ht1, hv1, hd1, _, _⟩, _⟩, _, _⟩ := h
 obtain rfl := Option.some.inj (gStart.symm.trans hg0)
 obtain rfl := Option.some.inj (gNums.symm.trans hg1)
 obtain rfl := Option.some.inj ((show (Tryz.prog.globals[0]?).map (·.type) = some 210 by kernel_rfl).symm.trans ht0)
 obtain rfl := Option.some.inj ((show (Tryz.prog.globals[1]?).map (·.type) = some 232 by kernel_rfl).symm.trans ht1)
 rw [datStart] at hd0
 rw [datNums] at hd1
 have s0 := trod_u32s Tryz.underlying210 rfl hd0
 have s1 := trod_u32s Tryz.underlying232 rfl hd1
 have c1 : ∀ (i : Nat) x, Sha.K[i]? = some x → W.cell? ⟨1, i, none⟩ = some (.int .u32 ((x : Nat) : Int)) := fun i x hx => by
  rw [World.var?_cell hg1 hv1 i]
  have := s1 i x hx
  simpa using this
 refine ⟨⟨?_, c1⟩, fun i x hx => ?_⟩
 · exact World.block_lt_of_cell? W _ (c1 0 _ rfl)
 · rw [World.var?_cell hg0 hv0 i]
   have := s0 i x hx
   simpa using this
end Go.Proofs.YtnonfdcbnkdmcaaGreatDoor
namespace Go.Proofs.YtnonfdcbnkdmcaaGreatDoor
open Go.ChangeShapes Go.WideShapes Go.ChangeAt Go.RowKit Go.Joins Go.Mem
open Go.Sto (Ent)
open Go.Vw (Hd Fk)
theorem cellsSl : Tryz.prog.cellsOf 71 = 1 := by kernel_rfl
theorem cellsSlD : Tryz.prog.cellsOf 47 = 1 := by kernel_rfl
theorem cellsSlH : Tryz.prog.cellsOf 48 = 1 := by kernel_rfl
theorem cellsBo : Tryz.prog.cellsOf 4 = 1 := by kernel_rfl
theorem cellsEnt : Tryz.prog.cellsOf 75 = 35 := by kernel_rfl
theorem cellsVw : Tryz.prog.cellsOf 50 = 5 := by kernel_rfl
section
variable {H : Type} {enc : TypeId × Value → H} {W : World}
theorem open_u8 {fuel : Nat} {cs : List Value} {x : DataW H × List MemPlace} (h : DataW.trod enc Tryz.prog W 0 (fun _ => true) true fuel 5 cs = some x) : ∃ y : Nat, cs = [.int .u8 (y : Int)] ∧ y < 256 := by
 obtain ⟨a, e0, _, w0⟩ := DataW.trod_int Tryz.underlying5 h
 have hb : 0 ≤ a ∧ a < 256 := by
  have h2 : IntKind.u8.min ≤ a ∧ a ≤ IntKind.u8.max := by simpa [Lit.wf] using w0
  have e1 : IntKind.u8.min = 0 := rfl
  have e2 : IntKind.u8.max = 255 := rfl
  omega
 exact ⟨a.toNat, by rw [e0, Int.toNat_of_nonneg hb.1], by omega⟩
theorem open_bytes' {fuel : Nat} {cs : List Value} {x : DataW H × List MemPlace} (h : DataW.trod enc Tryz.prog W 0 (fun _ => true) true fuel 71 cs = some x) : ∃ a n c l, cs = [.slice a n c] ∧ BW W a n c l := by
 rcases Deep.open_slice Tryz.underlying71 h with ⟨rfl, _⟩ | ⟨ad, len, cap, m, k, D, Pl, rfl, hb, hl, hm, hmm, _, hx⟩
 · exact ⟨none, 0, 0, [], rfl, .inl ⟨rfl, Nat.le_refl _, by decide, fun _ => ⟨rfl, rfl⟩, (fun ad e => by cases e), (fun x hx => by cases hx)⟩⟩
 · simp at hmm
   subst hmm
   rw [cellsU8] at hx
   by_cases h0 : m = 0
   · subst h0
     obtain rfl : len = 0 := by omega
     exact ⟨some ad, 0, 0, [], rfl, .inr ⟨rfl, rfl, rfl, ad, rfl⟩⟩
   · have each : ∀ i, i < m → ∃ y : Nat, W.cell? (ad.add i) = some (.int .u8 (y : Int)) ∧ y < 256 := by
      intro i hi
      obtain ⟨cs', h1, h2⟩ := hx i hi
      rw [Nat.mul_one] at h1
      obtain ⟨_, hlen, hcell⟩ := World.cells?_some h1
      obtain ⟨y, rfl, hy⟩ := open_u8 h2
      have e0 := hcell 0 (by omega)
      have z : ∀ q : Addr, q.add 0 = q := fun q => by unfold Addr.add; cases q; simp
      rw [z] at e0
      exact ⟨y, by simpa using e0, hy⟩
     obtain ⟨T, hT⟩ := Deep.choose_lt each
     obtain ⟨b, off, spot⟩ := ad
     have c0 := (hT 0 (by omega)).1
     have hspot : spot = none := by simpa [Addr.add] using World.cell?_spot c0
     subst hspot
     have hbl : b < W.heap.size := World.block_lt_of_cell? W _ (by simpa [Addr.add] using c0)
     refine ⟨_, len, m, (List.range len).map T, rfl, .inl ⟨by simp, hl, by unfold maxLen at hm; omega, (fun e => by cases e), fun ad e => ?_, fun y hy => ?_⟩⟩
     · cases e
       refine ⟨b, off, rfl, hbl, fun i y hy => ?_⟩
       have hi : i < len := by have := (List.getElem?_eq_some_iff.1 hy).1; simpa using this
       have hti : y = T i := by rw [List.getElem?_map, List.getElem?_range hi] at hy; simpa using hy.symm
       subst hti
       have g0 := (hT i (by omega)).1
       rwa [Addr.add_lit] at g0
     · obtain ⟨i, hi, rfl⟩ := List.mem_map.1 hy
       exact (hT i (by have := List.mem_range.1 hi; omega)).2

theorem open_rows {α : Type} (d0 : α) {s : Nat} {R : World → α → List Value → Prop} {t e : TypeId} (ht : Tryz.prog.underlying t = some (.slice e)) (hs : Tryz.prog.cellsOf e = s) (h0 : 0 < s)
 (hel : ∀ {fuel : Nat} {cs : List Value} {x : DataW H × List MemPlace}, DataW.trod enc Tryz.prog W 0 (fun _ => true) true fuel e cs = some x → ∃ y, R W y cs ∧ cs.length = s)
 {fuel : Nat} {cs : List Value} {x : DataW H × List MemPlace} (h : DataW.trod enc Tryz.prog W 0 (fun _ => true) true fuel t cs = some x) : ∃ a n c l, cs = [.slice a n c] ∧ RS s R (fun _ => True) W a n c l := by
 rcases Deep.open_slice ht h with ⟨rfl, _⟩ | ⟨ad, len, cap, m, k, D, Pl, rfl, hb, hl, hm, hmm, _, hx⟩
 · exact ⟨none, 0, 0, [], rfl, RS.nil0 _ _ _⟩
 · simp at hmm
   subst hmm
   rw [hs] at hx
   have each : ∀ i, i < m → ∃ q : α × List Value, (∀ j u, q.2[j]? = some u → W.cell? ((ad.add (i * s)).add j) = some u) ∧ R W q.1 q.2 ∧ q.2.length = s := by
    intro i hi
    obtain ⟨cs', h1, h2⟩ := hx i hi
    obtain ⟨_, hlen, hcell⟩ := World.cells?_some h1
    obtain ⟨y, hy, hl4⟩ := hel h2
    refine ⟨(y, cs'), fun j u hu => ?_, hy, hl4⟩
    have hj := (List.getElem?_eq_some_iff.1 hu).1
    have := hcell j (by rw [← hlen]; exact hj)
    rw [this]
    simpa using hu
   have : Inhabited (α × List Value) := ⟨(d0, [])⟩
   obtain ⟨T, hT⟩ := Deep.choose_lt each
   have hrs : ∀ r ∈ (List.range len).map (fun i => (T i).2), r.length = s := fun r hr => by
    obtain ⟨i, hi, rfl⟩ := List.mem_map.1 hr
    exact (hT i (by have := List.mem_range.1 hi; omega)).2.2
   refine ⟨_, len, m, (List.range len).map (fun i => (T i).1), rfl, by simp, fun _ _ _ => trivial, (List.range len).map (fun i => (T i).2), ⟨?_, hl, hm, (fun e => by cases e), fun hn => ?_⟩, ⟨by simp, hrs, fun i e r he hr => ?_⟩⟩
   · rw [flat_len hrs]; simp
   · obtain ⟨b, off, spot⟩ := ad
     have hrow : ∀ i, i < len → ∀ j, j < s → ∃ u, (T i).2[j]? = some u := fun i hi j hj => ⟨_, List.getElem?_eq_getElem (by rw [(hT i (by omega)).2.2]; exact hj)⟩
     obtain ⟨u0, hu0⟩ := hrow 0 hn 0 h0
     have c0 := (hT 0 (by omega)).1 0 u0 hu0
     have hspot : spot = none := by simpa [Addr.add] using World.cell?_spot c0
     subst hspot
     have hbl : b < W.heap.size := World.block_lt_of_cell? W _ (by simpa [Addr.add] using c0)
     refine ⟨b, off, rfl, hbl, fun j u hj => ?_⟩
     have hjl := (List.getElem?_eq_some_iff.1 hj).1
     rw [flat_len hrs] at hjl
     simp only [List.length_map, List.length_range] at hjl
     have hi : j / s < len := Nat.div_lt_of_lt_mul (by rw [Nat.mul_comm]; exact hjl)
     have hjm := Nat.mod_lt j h0
     have hdm : j / s * s + j % s = j := by rw [Nat.mul_comm]; exact Nat.div_add_mod j s
     obtain ⟨v, hv⟩ := hrow (j / s) hi (j % s) hjm
     have hg := flat_get (i := j / s) (j := j % s) hrs (r := (T (j / s)).2) (by simp [hi]) hv
     rw [hdm, hj] at hg
     cases hg
     have := (hT (j / s) (by omega)).1 _ _ hv
     rw [Addr.add_lit, Addr.add_lit] at this
     rw [show off + j = off + j / s * s + j % s by omega]
     exact this
   · have hi : i < len := by have := (List.getElem?_eq_some_iff.1 he).1; simpa using this
     rw [List.getElem?_map, List.getElem?_range hi] at he hr
     simp at he hr
     subst he hr
     exact (hT i (by omega)).2.1

def DR (_ : World) (d : List Nat) (r : List Value) : Prop := r = bv d ∧ d.length = 32 ∧ ∀ u ∈ d, u < 256
theorem ds_of_rs {a : Option Addr} {n c : Nat} {l : List (List Nat)} (h : RS 32 DR (fun _ => True) W a n c l) : DS W a n c l := by
 refine ⟨h.len, h.le, h.max, fun e => (h.nil' e).1, fun hn ad e => ?_, fun x hx => ?_⟩
 · obtain ⟨rows, hR, hO⟩ := h.rows
   obtain ⟨b, off, e2, hlt, hc⟩ := hR.cells hn
   rw [e] at e2
   cases e2
   refine ⟨b, off, rfl, hlt, fun i x hx => ?_⟩
   obtain ⟨r, _, hr, _, hf⟩ := hO.get hx
   intro j u hj
   rw [Nat.add_assoc, Nat.mul_comm 32 i]
   exact hc _ u (hf j u (by rw [hr.1]; exact hj))
 · obtain ⟨i, hi, e⟩ := List.getElem_of_mem hx
   obtain ⟨_, _, r, _, _, _, hr, _⟩ := h.get (List.getElem?_eq_some_iff.2 ⟨hi, e⟩)
   exact hr.2
theorem open_digs {fuel : Nat} {cs : List Value} {x : DataW H × List MemPlace} (h : DataW.trod enc Tryz.prog W 0 (fun _ => true) true fuel 47 cs = some x) : ∃ a n c l, cs = [.slice a n c] ∧ DS W a n c l := by
 obtain ⟨a, n, c, l, e, hR⟩ := open_rows (R := DR) [] Tryz.underlying47 cells35 (by decide) (fun h => by
  obtain ⟨D, e, h1, h2⟩ := open_digest h
  exact ⟨D, ⟨e, h1, h2⟩, by rw [e, bv_length, h1]⟩) h
 exact ⟨a, n, c, l, e, ds_of_rs hR⟩
abbrev HSr (w : World) (a : Option Addr) (n c : Nat) (l : List Hd) : Prop := RS 37 HV (fun _ => True) w a n c l
theorem open_hd {fuel : Nat} {cs : List Value} {x : DataW H × List MemPlace} (h : DataW.trod enc Tryz.prog W 0 (fun _ => true) true fuel 36 cs = some x) : ∃ y : Hd, OkH y ∧ cs = hdC y := by
 obtain ⟨st, fo, no, R, S, D, e, h1, h2, h3, h4, h5, h6, h7⟩ := open_head h
 exact ⟨⟨st, fo, no, D, R, S⟩, ⟨h1, h2, h3, h4, h5, h6, h7⟩, e⟩
theorem open_hds {fuel : Nat} {cs : List Value} {x : DataW H × List MemPlace} (h : DataW.trod enc Tryz.prog W 0 (fun _ => true) true fuel 48 cs = some x) : ∃ a n c l, cs = [.slice a n c] ∧ HSr W a n c l :=
 open_rows (R := HV) ⟨0, 0, 0, [], 0, 0⟩ Tryz.underlying48 cellsHead (by decide) (fun h => by
  obtain ⟨y, ok, e⟩ := open_hd h
  exact ⟨y, ⟨ok, e⟩, by rw [e, hdC_len ok]⟩) h
theorem open_ent {fuel : Nat} {cs : List Value} {x : DataW H × List MemPlace} (h : DataW.trod enc Tryz.prog W 0 (fun _ => true) true fuel 75 cs = some x) : ∃ e : Ent, EVr W e cs ∧ cs.length = 35 := by
 obtain ⟨xs, n, _, rfl, hl, hlen, hf⟩ := DataW.trod_struct Tryz.underlying75 h
 rw [cellsEnt] at hl
 match xs, hlen with
 | [y0, y1, y2, y3], _ =>
  have h0 : DataW.trod enc Tryz.prog W 0 (fun _ => true) true n 3 ((cs.drop 0).take (Tryz.prog.cellsOf 3)) = some y0 := hf 0 _ rfl
  rw [cellsInt] at h0
  have h1 : DataW.trod enc Tryz.prog W 0 (fun _ => true) true n 32 ((cs.drop 1).take (Tryz.prog.cellsOf 32)) = some y1 := hf 1 _ rfl
  rw [cells35] at h1
  have h2 : DataW.trod enc Tryz.prog W 0 (fun _ => true) true n 71 ((cs.drop 33).take (Tryz.prog.cellsOf 71)) = some y2 := hf 2 _ rfl
  rw [cellsSl] at h2
  have h3 : DataW.trod enc Tryz.prog W 0 (fun _ => true) true n 4 ((cs.drop 34).take (Tryz.prog.cellsOf 4)) = some y3 := hf 3 _ rfl
  rw [cellsBo] at h3
  obtain ⟨ki, e0, i0⟩ := open_int1 h0
  obtain ⟨D, e1, hD, hu⟩ := open_digest h1
  obtain ⟨a, dn, dc, data, e2, hB⟩ := open_bytes' h2
  obtain ⟨g, e3, _⟩ := DataW.trod_bool Tryz.underlying4 h3
  have q35 : cs.drop 35 = [] := List.drop_eq_nil_of_le (by omega)
  have q34 : cs.drop 34 = [.bool g] := by rw [drop_parts cs 34 1 35 rfl, e3, q35]; rfl
  have q33 : cs.drop 33 = [.slice a dn dc, .bool g] := by rw [drop_parts cs 33 1 34 rfl, e2, q34]; rfl
  have q1 : cs.drop 1 = bv D ++ [.slice a dn dc, .bool g] := by rw [drop_parts cs 1 32 33 rfl, e1, q33]
  have q0 : cs.drop 0 = [.int .i64 ki] ++ (bv D ++ [.slice a dn dc, .bool g]) := by rw [drop_parts cs 0 1 1 rfl, e0, q1]
  exact ⟨⟨ki, D, data, g⟩, ⟨⟨hD, hu, i0.1, i0.2⟩, a, dn, dc, q0, hB⟩, hl⟩
theorem open_ents {fuel : Nat} {cs : List Value} {x : DataW H × List MemPlace} (h : DataW.trod enc Tryz.prog W 0 (fun _ => true) true fuel 30 cs = some x) : ∃ a n c l, cs = [.slice a n c] ∧ ESr W a n c l :=
 open_rows (R := EVr) ⟨0, [], [], false⟩ Tryz.underlying30 cellsEnt (by decide) open_ent h
structure VMr (w : World) (v : Vw.V) (da : Option Addr) (dn dc : Nat) (ha : Option Addr) (hn hc : Nat) : Prop where
 st : I64 v.st
 fo : I64 v.fo
 pub : I64 v.pub
 ds : DS w da dn dc v.ds
 hs : HSr w ha hn hc v.hs
theorem VMr.below {w w' : World} {v : Vw.V} {da ha : Option Addr} {dn dc hn hc : Nat} (h : VMr w v da dn dc ha hn hc) (hb : Below w.heap.size w w') : VMr w' v da dn dc ha hn hc :=
 ⟨h.st, h.fo, h.pub, h.ds.below hb, h.hs.keep (.below hb) fun _ _ hr => hr⟩
theorem VMr.vm {w : World} {v : Vw.V} {da ha : Option Addr} {dn dc hn hc : Nat} (h : VMr w v da dn dc ha hn hc) (h1 : dn ≤ 100000) (h2 : hn ≤ 100000) : VM w v da dn dc ha hn hc := ⟨h.st, h.fo, h.pub, h.ds, ⟨h.hs, h2⟩, h1⟩
theorem open_view {fuel : Nat} {cs : List Value} {x : DataW H × List MemPlace} (h : DataW.trod enc Tryz.prog W 0 (fun _ => true) true fuel 50 cs = some x) : ∃ (v : Vw.V) (da : Option Addr) (dn dc : Nat) (ha : Option Addr) (hn hc : Nat), cs = vwC v da dn dc ha hn hc ∧ VMr W v da dn dc ha hn hc := by
 obtain ⟨xs, n, _, rfl, hl, hlen, hf⟩ := DataW.trod_struct Tryz.underlying50 h
 rw [cellsVw] at hl
 match xs, hlen with
 | [y0, y1, y2, y3, y4], _ =>
  have h0 : DataW.trod enc Tryz.prog W 0 (fun _ => true) true n 3 ((cs.drop 0).take (Tryz.prog.cellsOf 3)) = some y0 := hf 0 _ rfl
  rw [cellsInt] at h0
  have h1 : DataW.trod enc Tryz.prog W 0 (fun _ => true) true n 3 ((cs.drop 1).take (Tryz.prog.cellsOf 3)) = some y1 := hf 1 _ rfl
  rw [cellsInt] at h1
  have h2 : DataW.trod enc Tryz.prog W 0 (fun _ => true) true n 3 ((cs.drop 2).take (Tryz.prog.cellsOf 3)) = some y2 := hf 2 _ rfl
  rw [cellsInt] at h2
  have h3 : DataW.trod enc Tryz.prog W 0 (fun _ => true) true n 47 ((cs.drop 3).take (Tryz.prog.cellsOf 47)) = some y3 := hf 3 _ rfl
  rw [cellsSlD] at h3
  have h4 : DataW.trod enc Tryz.prog W 0 (fun _ => true) true n 48 ((cs.drop 4).take (Tryz.prog.cellsOf 48)) = some y4 := hf 4 _ rfl
  rw [cellsSlH] at h4
  obtain ⟨st, e0, i0⟩ := open_int1 h0
  obtain ⟨fo, e1, i1⟩ := open_int1 h1
  obtain ⟨pub, e2, i2⟩ := open_int1 h2
  obtain ⟨da, dn, dc, ds, e3, hD⟩ := open_digs h3
  obtain ⟨ha, hn, hc, hs, e4, hH⟩ := open_hds h4
  have q5 : cs.drop 5 = [] := List.drop_eq_nil_of_le (by omega)
  have q4 : cs.drop 4 = [.slice ha hn hc] := by rw [drop_parts cs 4 1 5 rfl, e4, q5]; rfl
  have q3 : cs.drop 3 = [.slice da dn dc, .slice ha hn hc] := by rw [drop_parts cs 3 1 4 rfl, e3, q4]; rfl
  have q2 : cs.drop 2 = [.int .i64 pub, .slice da dn dc, .slice ha hn hc] := by rw [drop_parts cs 2 1 3 rfl, e2, q3]; rfl
  have q1 : cs.drop 1 = [.int .i64 fo, .int .i64 pub, .slice da dn dc, .slice ha hn hc] := by rw [drop_parts cs 1 1 2 rfl, e1, q2]; rfl
  have q0 : cs.drop 0 = [.int .i64 st, .int .i64 fo, .int .i64 pub, .slice da dn dc, .slice ha hn hc] := by rw [drop_parts cs 0 1 1 rfl, e0, q1]; rfl
  exact ⟨⟨st, fo, pub, ds, hs⟩, da, dn, dc, ha, hn, hc, q0, i0, i1, i2, hD, hH⟩
end
end Go.Proofs.YtnonfdcbnkdmcaaGreatDoor

