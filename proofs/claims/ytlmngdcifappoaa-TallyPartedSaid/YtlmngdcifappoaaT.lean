/- added: additions one after the other -/
import Derived.Test.YtlmngdcifappoaaS
import Derived.Test.YtlmngdcifappoaaTallyPlain5
namespace Go.Proofs.Ytlmngdcifappoaa
open Go.RowKit
open Tally (Tl)

/-- the list to which all was added, or that one addition was refused. -/
def APost (o : Option (List Tl)) (w : World) (e : Ending) (w' : World) : Prop :=
  Below w.heap.size w w' ∧ match o with
    | none => e = .returned (.tuple #[.slice none 0 0, .bool false])
    | some x => ∃ a c, e = .returned (.tuple #[.slice a x.length c, .bool true]) ∧ TS w' a x.length c x

set_option maxHeartbeats 4000000 in
set_option maxRecDepth 100000 in
theorem added_any (a b : Option Addr) (n c m h : Nat) (l : List Tl) (ns : List Int) (d : Int) (w : World) (H : TS w a n c l) (G : IS w b m h ns) (hd : InI d) (hn : n ≤ 100) (hm : m ≤ 8) (hchk : Tally.chk l = true) :
    Calls Try.prog 21 #[.slice a n c, .int .i64 d, .slice b m h] w (APost (Tally.addedSpec d ns l) w) := by
  have hle := H.le
  have hmx := H.max
  have gle := G.le
  have gmx := G.max
  obtain ⟨q, hq⟩ : ∃ q, Hid (Tally.seqOf d l 0 = q) := ⟨_, rfl⟩
  have hq0 : 0 ≤ q := by rw [← hq.out]; exact (Tally.seqOf_bounds hchk).1
  have hq1 : q ≤ 1048576 := by rw [← hq.out]; exact (Tally.seqOf_bounds hchk).2
  go_enter Try.func21, Try.ntmps21
  go_wp2_with fail
  go_loopw [8, 9] (fun sv iv wr => ∃ (k : Nat) (s : Int), k ≤ n ∧ iv = .int .i64 k ∧ sv = .int .i64 s ∧ Tally.seqOf d (l.drop k) s = q ∧ Below w.heap.size w wr)
    (fun _ i _ => n - (intOf i).toNat)
  case atStart => exact ⟨0, 0, Nat.zero_le _, rfl, rfl, hq.out, Below.refl _ _⟩
  case round =>
    obtain ⟨k, s, hk, rfl, rfl, hinv, hb⟩ := hrel
    by_cases hlt : k < n
    · obtain ⟨bb, off, rfl, hbs, hc⟩ := H.cells (by omega)
      have hkl : k < l.length := by rw [H.len]; exact hlt
      obtain ⟨c0, c1, c2⟩ := hc k l[k] (List.getElem?_eq_getElem hkl)
      rw [← hb.cell (p := ⟨bb, _, none⟩) hbs] at c0 c1 c2
      rw [List.drop_eq_getElem_cons hkl, Tally.seqOf_cons] at hinv
      generalize l[k] = t at *
      have hlt' : (k : Int) < (n : Int) := by omega
      by_cases e : t.d = d
      · have e' : (t.d == d) = true := by simpa using e
        have hinv' : Hid (Tally.seqOf d (l.drop (k + 1)) t.s = q) := by rw [if_pos e] at hinv; exact hinv
        clear hinv hc hkl
        go_wp2_with fail
        go_roundw
        case rel => exact ⟨k + 1, t.s, by omega, by go_num, rfl, hinv'.out, hb⟩
        case measure => simp [intOf]; omega
      · have e' : (t.d == d) = false := by simpa using e
        have hinv' : Hid (Tally.seqOf d (l.drop (k + 1)) s = q) := by rw [if_neg e] at hinv; exact hinv
        clear hinv hc hkl
        go_wp2_with fail
        go_roundw
        case rel => exact ⟨k + 1, s, by omega, by go_num, rfl, hinv'.out, hb⟩
        case measure => simp [intOf]; omega
    · have hkn : k = n := by omega
      subst hkn
      obtain rfl : s = q := by rw [List.drop_eq_nil_of_le (by rw [H.len]; omega)] at hinv; exact hinv
      clear hinv
      obtain ⟨wo, rfl⟩ : ∃ wo, wo = wr := ⟨wr, rfl⟩
      have G0 := G.below hb
      have H0 := H.below hb (Nat.le_refl _)
      have hq' : Hid (Tally.addAll d (s + 1 + (0 : Nat)) (ns.drop 0) l = Tally.addedSpec d ns l) := by
        show _ = _
        unfold Tally.addedSpec
        rw [hq.out]; simp
      go_wp2_with fail
      go_loopw [0, 10] (fun lv iv wq => ∃ (j : Nat) (y : List Tl) (a' : Option Addr) (c' : Nat), j ≤ m ∧ iv = .int .i64 j ∧ lv = .slice a' y.length c' ∧ TS wq a' y.length c' y ∧ Tally.chk y = true ∧ y.length ≤ k + j ∧
          Tally.addAll d (s + 1 + (j : Nat)) (ns.drop j) y = Tally.addedSpec d ns l ∧ Below wo.heap.size wo wq)
        (fun _ i _ => m - (intOf i).toNat)
      case atStart => exact ⟨0, l, a, c, Nat.zero_le _, rfl, by rw [H.len], by rw [H.len]; exact H0, hchk, by rw [H.len]; omega, hq'.out, Below.refl _ _⟩
      case round =>
        obtain ⟨j, y, a', c', hj, rfl, rfl, Y, hcy, hyl, hinv, hbq⟩ := hrel
        by_cases hjm : j < m
        · obtain ⟨bg, offg, rfl, hbg, hcg⟩ := G0.cells (by omega)
          have hjl : j < ns.length := by rw [G.len]; exact hjm
          have d0 := hcg j ns[j] (List.getElem?_eq_getElem hjl)
          rw [← hbq.cell (p := ⟨bg, _, none⟩) hbg] at d0
          have hwf : InI ns[j] := G.wf _ (List.getElem_mem hjl)
          rw [List.drop_eq_getElem_cons hjl] at hinv
          generalize ns[j] = v at *
          have hjm' : (j : Int) < (m : Int) := by omega
          have is : InI (s + 1 + (j : Int)) := by unfold InI; omega
          by_cases hx : (Tally.addSpec y d (s + 1 + (j : Int)) v).2 = 0
          · obtain ⟨z, ez, haz, hcz⟩ := Tally.addAll_ok (r := ns.drop (j + 1)) hcy hx
            have ez' := Lib.hid ez
            have hzl := Tally.addSpec_length y d (s + 1 + (j : Int)) v
            rw [ez] at hzl
            have hzl' : Hid (z.length ≤ k + (j + 1)) := by show _ ≤ _; have : z.length ≤ y.length + 1 := hzl; omega
            have hinv' : Hid (Tally.addAll d (s + 1 + ((j + 1 : Nat) : Int)) (ns.drop (j + 1)) z = Tally.addedSpec d ns l) := by
              show _ = _
              rw [haz] at hinv
              rw [← hinv]; congr 1; omega
            have hcz' := Lib.hid hcz
            clear hinv hx ez haz hcz hzl hcg hjl
            go_wp2_with fail
            refine (add_t a' y.length c' y d (s + 1 + (j : Int)) v wr Y (by omega) hd is hwf z z.length 0 ez'.out rfl).mono ?_
            rintro e w2 ⟨az, cz, rfl, Z, hb2⟩
            go_wp2_with fail
            go_roundw
            case rel => exact ⟨j + 1, z, az, cz, by omega, by go_num, rfl, Z, hcz'.out, hzl'.out, hinv'.out, hbq.trans (hb2.mono hbq.size)⟩
            case measure => simp [intOf]; omega
          · have hnone := Lib.hid ((Tally.addAll_bad (r := ns.drop (j + 1)) hcy hx).symm.trans hinv)
            obtain ⟨z, e1, ez⟩ : ∃ z e1, Hid (Tally.addSpec y d (s + 1 + (j : Int)) v = (z, e1)) := ⟨_, _, rfl⟩
            have h1 : (e1 != 0) = true := by rw [ez.out] at hx; simpa using hx
            clear hinv hx hcg hjl
            go_wp2_with fail
            refine (add_t a' y.length c' y d (s + 1 + (j : Int)) v wr Y (by omega) hd is hwf z z.length e1 ez.out rfl).mono ?_
            rintro e w2 ⟨az, cz, rfl, Z, hb2⟩
            go_wp2_with fail
            go_ret2
            refine ⟨hb.trans ((hbq.trans (hb2.mono hbq.size)).mono hb.size), ?_⟩
            rw [← hnone.out]; rfl
        · have hjm0 : j = m := by omega
          subst hjm0
          have hfin : Hid (Tally.addedSpec d ns l = some y) := by
            show _ = _
            rw [← hinv, List.drop_eq_nil_of_le (by rw [G.len]; omega)]; rfl
          clear hinv
          go_wp2_with fail
          go_ret2
          refine ⟨hb.trans (hbq.mono hb.size), ?_⟩
          rw [hfin.out]
          exact ⟨a', c', rfl, Y⟩

end Go.Proofs.Ytlmngdcifappoaa
