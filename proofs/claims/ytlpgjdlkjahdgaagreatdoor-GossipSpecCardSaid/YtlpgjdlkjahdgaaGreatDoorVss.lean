/- a signature that Sign gives is one that Verify accepts; plainly -/
import Derived.Test.YtlpgjdlkjahdgaaGreatDoorSgn3
namespace Grp
theorem signed_at {b : Nat} (hb : pw b Q = 1) (x k m : Nat) : pw b ((k + m * x % Q) % Q) = pw b k * pw (pw b x) m % P := by
  rw [pw_mod hb, pw_add]
  rw [pw_mod hb (m * x), pw_pw, Nat.mul_comm m x]
theorem ord_pw {b : Nat} (hb : pw b Q = 1) (k : Nat) : pw (pw b k) Q = 1 := by
  rw [pw_pw, Nat.mul_comm]
  exact pw_one_of hb k
theorem pw_zero {q : Nat} (hq : 0 < q) : pw 0 q = 0 := by unfold pw; rw [Nat.zero_pow hq, Nat.zero_mod]
theorem pw_pos {b : Nat} (hb : pw b Q = 1) (k : Nat) : 1 ≤ pw b k := by
  have h := ord_pw hb k
  refine Nat.pos_of_ne_zero fun e => ?_
  rw [e, pw_zero (by decide)] at h
  cases h
theorem ok_pw {b : Nat} (hb : pw b Q = 1) (k : Nat) : ok ((pw b k : Nat) : Int) = true := by
  unfold ok
  have h1 := pw_pos hb k
  have h2 := pw_lt b k
  have hP : P = 4611686018427377339 := rfl
  rw [decide_eq_true_iff, Int.toNat_natCast, ord_pw hb k]
  exact ⟨by omega, by omega, rfl⟩
theorem ok_iff {a : Int} (h : ok a = true) : ∃ n : Nat, a = n ∧ pw n Q = 1 := by
  unfold ok at h
  rw [decide_eq_true_iff] at h
  exact ⟨a.toNat, by omega, h.2.2⟩
theorem exp_at {b k : Nat} (hb : ok (b : Int) = true) (hk : k < 2305843009213688669) : exp (b : Int) (k : Int) = (((pw b k : Nat) : Int), 0) := by
  simp only [exp, hb, if_true, Int.toNat_natCast]
  rw [if_pos (by omega)]
end Grp
namespace Go.Proofs.YtlpgjdlkjahdgaaGreatDoor
def I64 (x : Int) : Prop := -9223372036854775808 ≤ x ∧ x ≤ 9223372036854775807
theorem hashK_bd (tag msg : List Nat) (l : List Int) : 1 ≤ hashK tag msg l ∧ hashK tag msg l < 2305843009213688669 := by
  have h : ∀ (m : Nat), 0 < m → ∀ (l : List Nat) (n : Nat), n < m → l.foldl (fun n b => (n * 256 + b) % m) n < m := by
    intro m hm l
    induction l with
    | nil => intro n hn; exact hn
    | cons b r ih => intro n _; exact ih _ (Nat.mod_lt _ hm)
  unfold hashK scalar restOf
  generalize Sha.tagged tag _ = t
  have := h 2305843009213688668 (by decide) t 0 (by decide)
  omega
theorem chk_of_ok {a : Int} (h : Grp.ok a = true) : Grp.chk a = 0 := Grp.chk_t h

theorem ver_sign {b x : Int} (hb : Grp.ok b = true) (hk : keyOk x = true) (msg : List Nat) :
    ∃ R S, signK b x msg = (R, S, 0) ∧ verB b (pubB b x) msg R S = true := by
  obtain ⟨n, rfl, hn⟩ := Grp.ok_iff hb
  have hx := of_decide_eq_true hk
  obtain ⟨y, rfl⟩ : ∃ y : Nat, x = y := ⟨x.toNat, by omega⟩
  rw [signK_t hk]
  have hkn := hashK_bd [110, 111, 110, 99, 101] msg [(y : Int)]
  have hnk : nonceK (y : Int) msg = ((hashK [110, 111, 110, 99, 101] msg [(y : Int)] : Nat) : Int) := rfl
  rw [hnk]
  generalize hashK [110, 111, 110, 99, 101] msg [(y : Int)] = k at hkn ⊢
  have hR : pubB (n : Int) (k : Int) = ((Grp.pw n k : Nat) : Int) := by unfold pubB; rw [Grp.exp_at hb (by omega)]
  have hp : pubB (n : Int) (y : Int) = ((Grp.pw n y : Nat) : Int) := by unfold pubB; rw [Grp.exp_at hb (by omega)]
  rw [hR, hp]
  have hhb := hashK_bd [115, 105, 103, 110] msg [((Grp.pw n k : Nat) : Int), ((Grp.pw n y : Nat) : Int)]
  have hhk : signH msg ((Grp.pw n k : Nat) : Int) ((Grp.pw n y : Nat) : Int) = ((hashK [115, 105, 103, 110] msg [((Grp.pw n k : Nat) : Int), ((Grp.pw n y : Nat) : Int)] : Nat) : Int) := rfl
  unfold verB
  rw [hhk]
  generalize hashK [115, 105, 103, 110] msg [((Grp.pw n k : Nat) : Int), ((Grp.pw n y : Nat) : Int)] = m at hhb hhk ⊢
  have hm : Fld.mul (m : Int) (y : Int) = (((m * y % Grp.Q : Nat) : Int), 0) := by
    unfold Fld.mul
    rw [if_neg (by simp [Fld.out]; omega)]
    simp [Grp.Q]
  have hmq : m * y % Grp.Q < Grp.Q := Nat.mod_lt _ (by decide)
  have hs : signS (k : Int) (m : Int) (y : Int) = ((((k + m * y % Grp.Q) % Grp.Q : Nat) : Int), 0) := by
    unfold signS
    rw [hm]
    unfold Fld.add
    have hQ : Grp.Q = 2305843009213688669 := rfl
    rw [if_neg (by simp only [Fld.out, Bool.or_eq_true, decide_eq_true_eq]; omega)]
    simp [Grp.Q]
  rw [hs]
  refine ⟨_, _, rfl, ?_⟩
  have hS : (k + m * y % Grp.Q) % Grp.Q < 2305843009213688669 := Nat.mod_lt _ (by decide)
  have hSb : pubB (n : Int) (((k + m * y % Grp.Q) % Grp.Q : Nat) : Int) = ((Grp.pw n ((k + m * y % Grp.Q) % Grp.Q) : Nat) : Int) := by unfold pubB; rw [Grp.exp_at hb hS]
  have hpo := Grp.ok_pw hn y
  have hRo := Grp.ok_pw hn k
  have hpo' : Grp.pw (Grp.pw n y) Grp.Q = 1 := Grp.ord_pw hn y
  rw [if_pos ⟨Grp.chk_t hpo, Grp.chk_t hRo, by unfold Fld.chk; rw [if_neg (by simp only [Fld.out, decide_eq_true_eq]; omega)]⟩, hhk, hSb, Grp.exp_at hpo (by omega)]
  rw [decide_eq_true_iff]
  unfold Grp.mul
  rw [if_pos hRo, if_pos (Grp.ok_pw hpo' m)]
  simp only [Int.toNat_natCast]
  rw [Grp.signed_at hn]

theorem base_ok : Grp.ok 4 = true := by
  unfold Grp.ok
  rw [decide_eq_true_iff]
  exact ⟨by decide, by decide, Grp.base_ord⟩

theorem ver_bd {b p R S : Int} {M : List Nat} (h : verB b p M R S = true) : I64 R ∧ I64 S := by
  unfold verB at h
  split at h
  · rename_i hc
    obtain ⟨_, h2, h3⟩ := hc
    have hR : Grp.ok R = true := by
      cases hk : Grp.ok R with
      | true => rfl
      | false => rw [Grp.chk_f hk] at h2; cases h2
    have hS : Fld.out S = false := by
      unfold Fld.chk at h3
      cases hk : Fld.out S with
      | false => rfl
      | true => rw [hk] at h3; cases h3
    unfold Grp.ok at hR
    unfold Fld.out at hS
    rw [decide_eq_true_iff] at hR
    rw [decide_eq_false_iff_not] at hS
    constructor <;> constructor <;> omega
  · cases h
end Go.Proofs.YtlpgjdlkjahdgaaGreatDoor
