/- StorePutSpec: for every store and arguments the law returns true and its arguments read as before; the package variables digest.start and digest.numbers are as the program's text lays them (the tied card); no other condition. -/
import Derived.Test.YtlpgjdlkjahdgaaGreatDoorRsP
import Derived.Test.YtlpgjdlkjahdgaaGreatDoorSne
import Derived.Test.YtlpgjdlkjahdgaaGreatDoorOpf
import Derived.Test.YtlpgjdlkjahdgaaGreatDoorCards
import Derived.Test.YtlpgjdlkjahdgaaGreatDoorTie
import Derived.SevenTiedAt
import Derived.Deep.DeepHandedRow
import Derived.Deep.DeepWitnessRowRef
namespace Go.Proofs.YtlpgjdlkjahdgaaGreatDoor
open Go.RowKit Go.Mem
open Go.Sto (Ent Lg St)

theorem ents_few {f : Int} : ∀ {L : List Lg}, (∀ x ∈ L, x.es.length ≤ 14) → (Sto.entsL f L).length ≤ 14
  | [], _ => by simp [Sto.entsL]
  | x :: r, h => by
    unfold Sto.entsL
    split
    · exact h x (List.mem_cons_self ..)
    · exact ents_few fun y hy => h y (List.mem_cons_of_mem _ hy)
structure SpF (w : World) (g1 g2 g3 g4 : Nat) (x y : St) (l : List Ent) (a1 : Option Addr) (c1 : Nat) (a2 : Option Addr) (c2 : Nat) (ea1 : Option Addr) (ec1 : Nat) (ea2 : Option Addr) (ec2 : Nat) (a3 : Option Addr) (c3 : Nat) (a4 : Option Addr) (c4 : Nat) (nx ny m : Nat) (W : World) : Prop where
  b1 : Blk W g1 24 (stC x a1 nx c1)
  b2 : Blk W g2 24 (stC x a2 nx c2)
  b3 : Blk W g3 24 (stC y a3 ny c3)
  b4 : Blk W g4 24 (stC y a4 ny c4)
  v1 : SV (fun _ => True) W a1 nx c1 x
  v2 : SV (fun _ => True) W a2 nx c2 x
  v3 : SV (fun _ => True) W a3 ny c3 y
  v4 : SV (fun _ => True) W a4 ny c4 y
  e1 : ES (fun _ => True) W ea1 m ec1 l
  e2 : ES (fun _ => True) W ea2 m ec2 l
  bel : Below w.heap.size w W
theorem SpF.next {w W W2 : World} {g1 g2 g3 g4 : Nat} {x y : St} {l : List Ent} {a1 a2 ea1 ea2 a3 a4 : Option Addr} {c1 c2 ec1 ec2 c3 c4 nx ny m : Nat} (h : SpF w g1 g2 g3 g4 x y l a1 c1 a2 c2 ea1 ec1 ea2 ec2 a3 c3 a4 c4 nx ny m W) (hb : Below W.heap.size W W2) : SpF w g1 g2 g3 g4 x y l a1 c1 a2 c2 ea1 ec1 ea2 ec2 a3 c3 a4 c4 nx ny m W2 :=
  ⟨h.b1.below hb h.b1.lt, h.b2.below hb h.b2.lt, h.b3.below hb h.b3.lt, h.b4.below hb h.b4.lt, h.v1.below hb, h.v2.below hb, h.v3.below hb, h.v4.below hb, h.e1.below hb, h.e2.below hb, h.bel.trans (hb.mono h.bel.size)⟩

set_option maxRecDepth 100000 in
set_option maxHeartbeats 16000000 in
theorem sps_walk (s : St) (a : Option Addr) (n c : Nat) (f : Int) (hf : I64 f) (kind : Int) (hk : I64 kind) (da : Option Addr) (dn dc : Nat) (data : List Nat) (no : Int) (hno : I64 no) (w : World) (HT : Tabs w) (H : SVr w a n c s) (HD : BW w da dn dc data) :
    Calls Tryz.prog 4 #[.agg (stC s a n c).toArray, .int .i64 f, .int .i64 kind, .slice da dn dc, .int .i64 no] w (RetBo true w) := by
  have HT' := Lib.hid HT
  have H' := Lib.hid H
  have HD' := Lib.hid HD
  clear HT H HD
  obtain ⟨X, hX⟩ : ∃ X, X = RetBo true w := ⟨_, rfl⟩
  have hfin : Hid (∀ W, Below w.heap.size w W → X (.returned (.bool true)) W) := fun W h => by rw [hX]; exact ⟨rfl, h⟩
  rw [← hX]
  clear hX
  obtain ⟨sb, hsb⟩ : ∃ sb, Hid (w.heap.size = sb) := ⟨_, rfl⟩
  go_enter Tryz.func4, Tryz.ntmps4
  go_upto_region 1 with fail
  rw [hsb.out]
  generalize hW : World.alloc _ _ = W1
  have hB : Hid (Blk W1 sb 24 (stC s a n c)) := by rw [← hW, ← hsb.out]; exact Blk.new w _ (stC s a n c)
  have hbw : Hid (Below w.heap.size w W1) := by rw [← hW]; exact (Below.refl _ w).alloc (Nat.le_refl _) _
  clear hW
  go_wp2_with fail
  refine (sane_any _ (HT'.out.below hbw.out)).mono ?_
  rintro e w1 ⟨rfl, hb⟩
  replace hB := Lib.hid (hB.out.below hb hB.out.lt)
  replace hbw := Lib.hid (hbw.out.trans (hb.mono hbw.out.size))
  clear hb
  have s0 := hB.out.at_ (i := 0) rfl
  have s1 := hB.out.at_ (i := 1) rfl
  have s2 := hB.out.at_ (i := 2) rfl
  go_wp2_with fail
  refine (few30s_any a n c s w1 (H'.out.below hbw.out)).mono ?_
  rintro e w2 ⟨rfl, hb⟩
  replace hB := Lib.hid (hB.out.below hb hB.out.lt)
  replace hbw := Lib.hid (hbw.out.trans (hb.mono hbw.out.size))
  clear s0 s1 s2 hb
  cases hfw : few30s s with
  | false =>
    have hend := Lib.hid (hfin.out w2 hbw.out)
    clear hfin hfw
    go_wp2_with fail
    exact hend.out
  | true =>
    by_cases hdn : 9000 < dn
    · have q1 : decide ((9000 : Int) < (dn : Int)) = true := decide_eq_true (by omega)
      have hend := Lib.hid (hfin.out w2 hbw.out)
      clear hfin hfw
      go_wp2_with fail
      exact hend.out
    · have q1 : decide ((9000 : Int) < (dn : Int)) = false := decide_eq_false (by omega)
      have HS := Lib.hid (H'.out.sv hfw)
      obtain ⟨h1, h2⟩ := few30s_iff hfw
      have hn4 : n ≤ 1000 := by have := H'.out.ls.len; omega
      have hel : (Sto.ents s f).length ≤ 1000 := by have := ents_few (f := f) (L := s.logs) (fun x hx => (h2 x hx).1); unfold Sto.ents; omega
      clear hfw h1 h2
      go_upto_region 5 with fail
      clear q1
      have hcP := Lib.hid (fun W (hW : Below w.heap.size w W) => Put_any a n c s f kind hf hk da dn dc data W (HT'.out.below hW) (HS.out.below hW) (HD'.out.below hW) (by omega))
      have hrP := Lib.hid (fun W (hW : Below w.heap.size w W) => r30put_any a n c s f kind hf hk da dn dc data W (HS.out.below hW) (HD'.out.below hW) (by omega) hn4 hel)
      have hcF := Lib.hid (fun W (hW : Below w.heap.size w W) => Fetch_any a n c s f no hno W (HT'.out.below hW) (HS.out.below hW))
      have hrF := Lib.hid (fun W (hW : Below w.heap.size w W) => r30fetch_any a n c s f no hno W (HS.out.below hW))
      have hcD := Lib.hid (fun W (hW : Below w.heap.size w W) => Delete_any a n c s f no hf hno W (HT'.out.below hW) (HS.out.below hW))
      have hrD := Lib.hid (fun W (hW : Below w.heap.size w W) => r30del_any a n c s f no hf hno W (HS.out.below hW) hn4)
      obtain ⟨⟨x, pn, pq⟩, hpx⟩ : ∃ r, Hid (Sto.putS s f kind data = r) := ⟨_, rfl⟩
      obtain ⟨⟨l, fq⟩, hfx⟩ : ∃ r, Hid (Sto.fetchS s f no = r) := ⟨_, rfl⟩
      obtain ⟨⟨y, dq⟩, hdx⟩ : ∃ r, Hid (Sto.delS s f no = r) := ⟨_, rfl⟩
      rw [hpx.out] at hcP hrP
      rw [hfx.out] at hcF hrF
      rw [hdx.out] at hcD hrD
      clear hpx hfx hdx hel hn4 hdn
      obtain ⟨nx, hnx⟩ : ∃ m, Hid (x.logs.length = m) := ⟨_, rfl⟩
      obtain ⟨ny, hny⟩ : ∃ m, Hid (y.logs.length = m) := ⟨_, rfl⟩
      obtain ⟨m, hlm⟩ : ∃ m, Hid (l.length = m) := ⟨_, rfl⟩
      have hsx := Lib.hid (fun W a1 c1 a2 c2 (h1 : SV (fun _ => True) W a1 nx c1 x) (h2 : SV (fun _ => True) W a2 nx c2 x) => same_any (fun _ => True) (fun _ => True) a1 a2 nx c1 c2 x W h1 h2)
      have hsy := Lib.hid (fun W a1 c1 a2 c2 (h1 : SV (fun _ => True) W a1 ny c1 y) (h2 : SV (fun _ => True) W a2 ny c2 y) => same_any (fun _ => True) (fun _ => True) a1 a2 ny c1 c2 y W h1 h2)
      have hse := Lib.hid (fun W a1 c1 a2 c2 (h1 : ES (fun _ => True) W a1 m c1 l) (h2 : ES (fun _ => True) W a2 m c2 l) => sameE_any (fun _ => True) (fun _ => True) a1 a2 m c1 c2 l W h1 h2)
      have s0 := hB.out.at_ (i := 0) rfl
      have s1 := hB.out.at_ (i := 1) rfl
      have s2 := hB.out.at_ (i := 2) rfl
      go_wp2_with fail
      refine (hcP.out w2 hbw.out).mono ?_
      rintro e w3 ⟨a1, c1, rfl, hr1, hb⟩
      clear s0 s1 s2
      replace hB := Lib.hid (hB.out.below hb hB.out.lt)
      replace hbw := Lib.hid (hbw.out.trans (hb.mono hbw.out.size))
      have v1 := Lib.hid (hr1.imp (fun _ _ _ => trivial))
      clear hb
      clear hr1
      rw [hnx.out] at v1 ⊢
      obtain ⟨g1, hg1⟩ : ∃ g, Hid (w3.heap.size = g) := ⟨_, rfl⟩
      go_upto_region 6 with fail
      rw [hg1.out]
      generalize hW : World.alloc _ _ = V3
      have hst : Below w3.heap.size w3 V3 := by rw [← hW]; exact (Below.refl _ _).alloc (Nat.le_refl _) _
      have b1 : Hid (Blk V3 g1 24 (stC x a1 nx c1)) := by rw [← hW, ← hg1.out]; exact Blk.new w3 _ (stC x a1 nx c1)
      clear hW hg1
      replace hB := Lib.hid (hB.out.below hst hB.out.lt)
      replace hbw := Lib.hid (hbw.out.trans (hst.mono hbw.out.size))
      replace v1 := Lib.hid (v1.out.below hst)
      clear hst
      have s0 := hB.out.at_ (i := 0) rfl
      have s1 := hB.out.at_ (i := 1) rfl
      have s2 := hB.out.at_ (i := 2) rfl
      go_wp2_with fail
      refine (hrP.out V3 hbw.out).mono ?_
      rintro e w4 ⟨a2, c2, rfl, hr2, hb⟩
      clear s0 s1 s2
      replace hB := Lib.hid (hB.out.below hb hB.out.lt)
      replace hbw := Lib.hid (hbw.out.trans (hb.mono hbw.out.size))
      replace v1 := Lib.hid (v1.out.below hb)
      replace b1 := Lib.hid (b1.out.below hb b1.out.lt)
      have v2 := Lib.hid (hr2)
      clear hb
      clear hr2
      rw [hnx.out] at v2 ⊢
      obtain ⟨g2, hg2⟩ : ∃ g, Hid (w4.heap.size = g) := ⟨_, rfl⟩
      go_upto_region 7 with fail
      rw [hg2.out]
      generalize hW : World.alloc _ _ = V4
      have hst : Below w4.heap.size w4 V4 := by rw [← hW]; exact (Below.refl _ _).alloc (Nat.le_refl _) _
      have b2 : Hid (Blk V4 g2 24 (stC x a2 nx c2)) := by rw [← hW, ← hg2.out]; exact Blk.new w4 _ (stC x a2 nx c2)
      clear hW hg2
      replace hB := Lib.hid (hB.out.below hst hB.out.lt)
      replace hbw := Lib.hid (hbw.out.trans (hst.mono hbw.out.size))
      replace v1 := Lib.hid (v1.out.below hst)
      replace b1 := Lib.hid (b1.out.below hst b1.out.lt)
      replace v2 := Lib.hid (v2.out.below hst)
      clear hst
      have s0 := hB.out.at_ (i := 0) rfl
      have s1 := hB.out.at_ (i := 1) rfl
      have s2 := hB.out.at_ (i := 2) rfl
      go_wp2_with fail
      refine (hcF.out V4 hbw.out).mono ?_
      rintro e w5 ⟨ea1, ec1, rfl, hr3, hb⟩
      clear s0 s1 s2
      replace hB := Lib.hid (hB.out.below hb hB.out.lt)
      replace hbw := Lib.hid (hbw.out.trans (hb.mono hbw.out.size))
      replace v1 := Lib.hid (v1.out.below hb)
      replace b1 := Lib.hid (b1.out.below hb b1.out.lt)
      replace v2 := Lib.hid (v2.out.below hb)
      replace b2 := Lib.hid (b2.out.below hb b2.out.lt)
      have e1 := Lib.hid (hr3.imp (fun _ _ _ => trivial))
      clear hb
      clear hr3
      rw [hlm.out] at e1 ⊢
      have s0 := hB.out.at_ (i := 0) rfl
      have s1 := hB.out.at_ (i := 1) rfl
      have s2 := hB.out.at_ (i := 2) rfl
      go_wp2_with fail
      refine (hrF.out w5 hbw.out).mono ?_
      rintro e w6 ⟨ea2, ec2, rfl, hr4, hb⟩
      clear s0 s1 s2
      replace hB := Lib.hid (hB.out.below hb hB.out.lt)
      replace hbw := Lib.hid (hbw.out.trans (hb.mono hbw.out.size))
      replace v1 := Lib.hid (v1.out.below hb)
      replace b1 := Lib.hid (b1.out.below hb b1.out.lt)
      replace v2 := Lib.hid (v2.out.below hb)
      replace b2 := Lib.hid (b2.out.below hb b2.out.lt)
      replace e1 := Lib.hid (e1.out.below hb)
      have e2 := Lib.hid (hr4)
      clear hb
      clear hr4
      rw [hlm.out] at e2 ⊢
      have s0 := hB.out.at_ (i := 0) rfl
      have s1 := hB.out.at_ (i := 1) rfl
      have s2 := hB.out.at_ (i := 2) rfl
      go_wp2_with fail
      refine (hcD.out w6 hbw.out).mono ?_
      rintro e w7 ⟨a3, c3, rfl, hr5, hb⟩
      clear s0 s1 s2
      replace hB := Lib.hid (hB.out.below hb hB.out.lt)
      replace hbw := Lib.hid (hbw.out.trans (hb.mono hbw.out.size))
      replace v1 := Lib.hid (v1.out.below hb)
      replace b1 := Lib.hid (b1.out.below hb b1.out.lt)
      replace v2 := Lib.hid (v2.out.below hb)
      replace b2 := Lib.hid (b2.out.below hb b2.out.lt)
      replace e1 := Lib.hid (e1.out.below hb)
      replace e2 := Lib.hid (e2.out.below hb)
      have v3 := Lib.hid (hr5.imp (fun _ _ _ => trivial))
      clear hb
      clear hr5
      rw [hny.out] at v3 ⊢
      obtain ⟨g3, hg3⟩ : ∃ g, Hid (w7.heap.size = g) := ⟨_, rfl⟩
      go_upto_region 10 with fail
      rw [hg3.out]
      generalize hW : World.alloc _ _ = V7
      have hst : Below w7.heap.size w7 V7 := by rw [← hW]; exact (Below.refl _ _).alloc (Nat.le_refl _) _
      have b3 : Hid (Blk V7 g3 24 (stC y a3 ny c3)) := by rw [← hW, ← hg3.out]; exact Blk.new w7 _ (stC y a3 ny c3)
      clear hW hg3
      replace hB := Lib.hid (hB.out.below hst hB.out.lt)
      replace hbw := Lib.hid (hbw.out.trans (hst.mono hbw.out.size))
      replace v1 := Lib.hid (v1.out.below hst)
      replace b1 := Lib.hid (b1.out.below hst b1.out.lt)
      replace v2 := Lib.hid (v2.out.below hst)
      replace b2 := Lib.hid (b2.out.below hst b2.out.lt)
      replace e1 := Lib.hid (e1.out.below hst)
      replace e2 := Lib.hid (e2.out.below hst)
      replace v3 := Lib.hid (v3.out.below hst)
      clear hst
      have s0 := hB.out.at_ (i := 0) rfl
      have s1 := hB.out.at_ (i := 1) rfl
      have s2 := hB.out.at_ (i := 2) rfl
      go_wp2_with fail
      refine (hrD.out V7 hbw.out).mono ?_
      rintro e w8 ⟨a4, c4, rfl, hr6, hb⟩
      clear s0 s1 s2
      replace hB := Lib.hid (hB.out.below hb hB.out.lt)
      replace hbw := Lib.hid (hbw.out.trans (hb.mono hbw.out.size))
      replace v1 := Lib.hid (v1.out.below hb)
      replace b1 := Lib.hid (b1.out.below hb b1.out.lt)
      replace v2 := Lib.hid (v2.out.below hb)
      replace b2 := Lib.hid (b2.out.below hb b2.out.lt)
      replace e1 := Lib.hid (e1.out.below hb)
      replace e2 := Lib.hid (e2.out.below hb)
      replace v3 := Lib.hid (v3.out.below hb)
      replace b3 := Lib.hid (b3.out.below hb b3.out.lt)
      have v4 := Lib.hid (hr6)
      clear hb
      clear hr6
      rw [hny.out] at v4 ⊢
      obtain ⟨g4, hg4⟩ : ∃ g, Hid (w8.heap.size = g) := ⟨_, rfl⟩
      go_upto_region 11 with fail
      rw [hg4.out]
      generalize hW : World.alloc _ _ = V8
      have hst : Below w8.heap.size w8 V8 := by rw [← hW]; exact (Below.refl _ _).alloc (Nat.le_refl _) _
      have b4 : Hid (Blk V8 g4 24 (stC y a4 ny c4)) := by rw [← hW, ← hg4.out]; exact Blk.new w8 _ (stC y a4 ny c4)
      clear hW hg4
      replace hB := Lib.hid (hB.out.below hst hB.out.lt)
      replace hbw := Lib.hid (hbw.out.trans (hst.mono hbw.out.size))
      replace v1 := Lib.hid (v1.out.below hst)
      replace b1 := Lib.hid (b1.out.below hst b1.out.lt)
      replace v2 := Lib.hid (v2.out.below hst)
      replace b2 := Lib.hid (b2.out.below hst b2.out.lt)
      replace e1 := Lib.hid (e1.out.below hst)
      replace e2 := Lib.hid (e2.out.below hst)
      replace v3 := Lib.hid (v3.out.below hst)
      replace b3 := Lib.hid (b3.out.below hst b3.out.lt)
      replace v4 := Lib.hid (v4.out.below hst)
      clear hst
      have hS : Hid (SpF w g1 g2 g3 g4 x y l a1 c1 a2 c2 ea1 ec1 ea2 ec2 a3 c3 a4 c4 nx ny m V8) := ⟨b1.out, b2.out, b3.out, b4.out, v1.out, v2.out, v3.out, v4.out, e1.out, e2.out, hbw.out⟩
      clear b1 b2 b3 b4 v1 v2 v3 v4 e1 e2 hB hbw hcP hrP hcF hrF hcD hrD
      have s0 := hS.out.b1.at_ (i := 0) rfl
      have s1 := hS.out.b1.at_ (i := 1) rfl
      have s2 := hS.out.b1.at_ (i := 2) rfl
      have t0 := hS.out.b2.at_ (i := 0) rfl
      have t1 := hS.out.b2.at_ (i := 1) rfl
      have t2 := hS.out.b2.at_ (i := 2) rfl
      go_wp2_with fail
      refine (hsx.out V8 a1 c1 a2 c2 hS.out.v1 hS.out.v2).mono ?_
      rintro e W7 ⟨rfl, hb1⟩
      clear s0 s1 s2 t0 t1 t2
      replace hS := Lib.hid (hS.out.next hb1)
      clear hb1
      go_wp2_with fail
      refine (hse.out W7 ea1 ec1 ea2 ec2 hS.out.e1 hS.out.e2).mono ?_
      rintro e W8 ⟨rfl, mm, hmm⟩
      have hb1 : Below W7.heap.size W7 W8 := by rw [hmm]; exact below_drewN _ _ _
      clear hmm
      replace hS := Lib.hid (hS.out.next hb1)
      clear hb1
      have s0 := hS.out.b3.at_ (i := 0) rfl
      have s1 := hS.out.b3.at_ (i := 1) rfl
      have s2 := hS.out.b3.at_ (i := 2) rfl
      have t0 := hS.out.b4.at_ (i := 0) rfl
      have t1 := hS.out.b4.at_ (i := 1) rfl
      have t2 := hS.out.b4.at_ (i := 2) rfl
      go_wp2_with fail
      refine (hsy.out W8 a3 c3 a4 c4 hS.out.v3 hS.out.v4).mono ?_
      rintro e W9 ⟨rfl, hb1⟩
      clear s0 s1 s2 t0 t1 t2
      replace hS := Lib.hid (hS.out.next hb1)
      clear hb1
      have hend := Lib.hid (hfin.out W9 hS.out.bel)
      clear hS
      go_wp2_with fail
      exact hend.out
end Go.Proofs.YtlpgjdlkjahdgaaGreatDoor
namespace Go.Proofs.YtlpgjdlkjahdgaaGreatDoor.lawSPutSpec
open Go.ChangeShapes Go.WideShapes Go.ChangeAt Go.RowKit Go.Mem
open Go.Proofs.YtlpgjdlkjahdgaaGreatDoor

set_option maxRecDepth 100000 in
theorem lifted (os : Os) (started : os.Started) (H : Type) (enc : TypeId × Value → H) :
    ReturnsInHanded {} Tryz.checked os 4 .any (fun w args => (Rows.storePutSpecSpec.pre enc Tryz.prog Tryz.f4 [] false w args ∧ laidMetH Tryz.prog laid2 w) ∧ sizedMet enc Tryz.prog Tryz.f4 (OpenSpec.ofChange Rows.storePutSpecSpec) false w args)
      (Rows.storePutSpecSpec.post enc Tryz.prog Tryz.f4 false true false false) := by
  refine returnsInHanded_of_change_and (C := Tryz.checked) (X := fun w _ => laidMetH Tryz.prog laid2 w) (fun _ _ _ hh h => h.of_heap hh) own started (by kernel_rfl) Tryz.func4
    (ChangeSpec.witness_shaped (enc := enc) (C := Tryz.checked) (os := os) (X := fun w _ => laidMetH Tryz.prog laid2 w) false (World.doorLaid Tryz.prog 400 os) #[.agg (stC ⟨0, 0, []⟩ none 0 0).toArray, .int .i64 0, .int .i64 0, .slice none 0 0, .int .i64 0] 8 rfl (World.shaped_of_RefB (by kernel_rfl) (by kernel_rfl)) (by kernel_rfl) (by kernel_rfl) (by kernel_rfl) (door_met os _)) ?_
  intro W base args ds gs before hval0 hW _ hwt hL _
  have hval : ∀ (j : Nat) t v, Tryz.f4.params[j]? = some t → args[j]? = some v → Value.okWide Tryz.prog W .any base t v := hval0
  have hW' := hW
  obtain ⟨p, q, hA0, hV, rfl, hfz, hnd⟩ := hW
  have hA : DataW.TrodAll enc Tryz.prog W 0 (fun _ => true) true Tryz.f4.params.toList args.toList ds p := hA0
  rw [Tryz.params4] at hA hval
  obtain ⟨v0, vs0, d0, ds0, p0, q0, hargs, rfl, rfl, h0, r0⟩ := trodAll_cons hA
  obtain ⟨v1, vs1, d1, ds1, p1, q1, rfl, rfl, rfl, h1, r1⟩ := trodAll_cons r0
  obtain ⟨v2, vs2, d2, ds2, p2, q2, rfl, rfl, rfl, h2, r2⟩ := trodAll_cons r1
  obtain ⟨v3, vs3, d3, ds3, p3, q3, rfl, rfl, rfl, h3, r3⟩ := trodAll_cons r2
  obtain ⟨v4, vs4, d4, ds4, p4, q4, rfl, rfl, rfl, h4, r4⟩ := trodAll_cons r3
  obtain ⟨rfl, rfl, rfl⟩ := trodAll_nil r4
  obtain rfl : args = #[v0, v1, v2, v3, v4] := by cases args; simp_all
  obtain ⟨rfl, rfl⟩ := trodVars_none hV
  have lt0 : ∀ x ∈ p0, x.block < W.heap.size := by obtain ⟨m, hm⟩ := h0; exact DataW.trod_lt m _ _ _ hm
  have lt1 : ∀ x ∈ p1, x.block < W.heap.size := by obtain ⟨m, hm⟩ := h1; exact DataW.trod_lt m _ _ _ hm
  have lt2 : ∀ x ∈ p2, x.block < W.heap.size := by obtain ⟨m, hm⟩ := h2; exact DataW.trod_lt m _ _ _ hm
  have lt3 : ∀ x ∈ p3, x.block < W.heap.size := by obtain ⟨m, hm⟩ := h3; exact DataW.trod_lt m _ _ _ hm
  have lt4 : ∀ x ∈ p4, x.block < W.heap.size := by obtain ⟨m, hm⟩ := h4; exact DataW.trod_lt m _ _ _ hm
  have k0' := h0
  have k1' := h1
  have k2' := h2
  have k3' := h3
  have k4' := h4
  obtain ⟨cs0, rfl, _⟩ := okWide_struct Tryz.underlying24 (hval 0 24 v0 rfl rfl)
  obtain ⟨m0, hm0⟩ := h0
  obtain ⟨s0, a0, n0, c0, e0, S0⟩ := open_store (cs := cs0.toList) (by simpa [Value.cells] using hm0)
  obtain rfl : cs0 = (stC s0 a0 n0 c0).toArray := by rw [← e0]
  clear hm0 e0
  obtain ⟨x1, rfl⟩ := okWide_int Tryz.underlying3 (hval 1 3 v1 rfl rfl)
  obtain ⟨m1, hm1⟩ := h1
  obtain ⟨x1', e1, i1⟩ := open_int1 (cs := [.int .i64 x1]) (by simpa [Value.cells] using hm1)
  obtain rfl : x1 = x1' := by simpa using e1
  clear hm1 e1
  obtain ⟨x2, rfl⟩ := okWide_int Tryz.underlying3 (hval 2 3 v2 rfl rfl)
  obtain ⟨m2, hm2⟩ := h2
  obtain ⟨x2', e2, i2⟩ := open_int1 (cs := [.int .i64 x2]) (by simpa [Value.cells] using hm2)
  obtain rfl : x2 = x2' := by simpa using e2
  clear hm2 e2
  obtain ⟨a3, n3, c3, rfl⟩ := okWide_slice Tryz.underlying33 (hval 3 33 v3 rfl rfl)
  obtain ⟨m3, hm3⟩ := h3
  obtain ⟨_, _, _, l3, e3, S3⟩ := open_bytes' (cs := [.slice a3 n3 c3]) (by simpa [Value.cells] using hm3)
  simp only [List.cons.injEq, Value.slice.injEq, and_true] at e3
  obtain ⟨rfl, rfl, rfl⟩ := e3
  clear hm3
  obtain ⟨x4, rfl⟩ := okWide_int Tryz.underlying3 (hval 4 3 v4 rfl rfl)
  obtain ⟨m4, hm4⟩ := h4
  obtain ⟨x4', e4, i4⟩ := open_int1 (cs := [.int .i64 x4]) (by simpa [Value.cells] using hm4)
  obtain rfl : x4 = x4' := by simpa using e4
  clear hm4 e4
  have hT := tabs_of_laid hL
  clear hA0 hval0
  refine (sps_walk s0 a0 n0 c0 x1 i1 x2 i2 a3 n3 c3 l3 x4 i4 W hT S0 S3).mono fun e W' ⟨he, bel⟩ => ?_
  subst he
  exact ⟨_, rfl, _, _, _, [], _, [], hW', trodAll_mk1 (shut_bool Tryz.underlying4 _),
    (trodAll_cons_mk (Below.trod laidOut (by kernel_rfl) (of_decide_eq_true (by kernel_rfl)) k0' bel lt0) (trodAll_cons_mk (Below.trod laidOut (by kernel_rfl) (of_decide_eq_true (by kernel_rfl)) k1' bel lt1) (trodAll_cons_mk (Below.trod laidOut (by kernel_rfl) (of_decide_eq_true (by kernel_rfl)) k2' bel lt2) (trodAll_cons_mk (Below.trod laidOut (by kernel_rfl) (of_decide_eq_true (by kernel_rfl)) k3' bel lt3) (trodAll_cons_mk (Below.trod laidOut (by kernel_rfl) (of_decide_eq_true (by kernel_rfl)) k4' bel lt4) trodAll_mk0))))), rfl, bel.frame _, fun h => by cases h⟩

theorem over : Rows.StorePutSpecSaid :=
  OpenClaim.holds_of_wide 4 Tryz.f4 rfl rfl rfl rfl rfl rfl rfl ⟨rfl, rfl, rfl, rfl, rfl⟩ rfl rfl rfl rfl rfl (by kernel_rfl) Tryz.func4 (by kernel_rfl)
    (of_decide_eq_true (by kernel_rfl)) (by unfold Func.isWrapper; first | (rw [if_pos (by decide +kernel)]; kernel_rfl) | (rw [if_neg (by decide +kernel)]; exact ⟨rfl, rfl⟩))
    (fun os started H enc _ => lifted os started H enc)

theorem proved : Rows.StorePutSpecCardSaid :=
  Claim7.holds_tied_plain_at .later [] [.data, .data] true (true, "0e71b2c2558acfe1f4ed3f440e2dab26401bb835ffca5b2d0e5c9d75e6479122") false
    over (fun _ h => by cases h) (by kernel_rfl) (fun _ h => by cases h) storePutSpec_row_tie rfl ⟨rfl, rfl⟩ (by kernel_rfl) rfl
    (fun f fn hf hfn => by
      obtain rfl : f = 4 := Option.some.inj ((show Tryz.prog.funcNamed "chartroom/chartroomlaw30.StorePutSpec" = some 4 by kernel_rfl).symm.trans hf) |>.symm
      obtain rfl : fn = Tryz.f4 := (Option.some.inj (Tryz.func4.symm.trans hfn)).symm
      exact ⟨by kernel_rfl, fun j t ht => by
        rw [Tryz.params4] at ht
        have hm : t ∈ [24, 3, 3, 33, 3] := by simpa using Array.mem_of_getElem? ht
        have hall : ([24, 3, 3, 33, 3].all fun u => !Tryz.prog.wantsStandIn u) = true := by kernel_rfl
        exact (show Tryz.prog.wantsStandIn t = false by simpa using List.all_eq_true.1 hall t hm)⟩)
    (by kernel_rfl)
#print axioms proved
end Go.Proofs.YtlpgjdlkjahdgaaGreatDoor.lawSPutSpec

