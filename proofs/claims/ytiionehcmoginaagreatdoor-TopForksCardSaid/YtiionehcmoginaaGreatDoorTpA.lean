/- TopForks, plainly: what is shown is accepted; a chain that joins again collides chartroomtop.collide sane32 of the top: a store that shows one device another entry is caught -/
import Derived.Test.YtiionehcmoginaaGreatDoorLiC
import Derived.KernelRfl
import Derived.Test.YtiionehcmoginaaGreatDoorVwD
import Derived.Test.YtiionehcmoginaaGreatDoorAcc
namespace Go.Sto
open Go.Proofs.YtiionehcmoginaaGreatDoor (entryD chainD)
theorem entOk_of {e : Ent} (h : entB e = true) : Vw.entOk e = true := by
 unfold entB at h
 unfold Vw.entOk
 by_cases hg : e.gone = true
 · rw [if_pos hg] at h ⊢
   unfold goneB at h
   rw [Bool.and_eq_true, decide_eq_true_iff] at h
   rw [h.1, h.2]; rfl
 · rw [if_neg hg] at h ⊢
   exact h
theorem entOk_kind {e : Ent} (h : Vw.entOk e = true) : kindB e.kind = true := by
 unfold Vw.entOk at h
 exact (Bool.and_eq_true_iff.1 h).1
theorem entOk_fork {e : Ent} (h : Vw.entOk e = true) : Vw.entOk (forkE e) = true := by
 have hk := entOk_kind h
 unfold Vw.entOk forkE
 simp [hk]
theorem lie_ok {k n : Int} {l : List Ent} (h : ∀ e ∈ l, Vw.entOk e = true) : ∀ e ∈ lie k n l, Vw.entOk e = true := by
 have hset : ∀ (m : List Ent) (i : Nat) (x : Ent), (∀ e ∈ m, Vw.entOk e = true) → Vw.entOk x = true → ∀ e ∈ m.set i x, Vw.entOk e = true := fun m i x hm hx e he => by
  rcases List.mem_or_eq_of_mem_set he with he | rfl
  · exact hm e he
  · exact hx
 unfold lie
 split
 · exact fun e he => h e (List.mem_of_mem_take he)
 · split
   · exact fun e he => by cases he
   · split
     · unfold lieAt
       split
       · exact h
       · rename_i x hx
         have hxm := List.mem_of_getElem? hx
         split
         · intro e he
           rcases List.mem_append.1 he with he | he
           · exact h e (List.mem_of_mem_take he)
           · exact h e (List.mem_of_mem_drop he)
         · split
           · intro e he
             rcases List.mem_append.1 he with he | he
             · rcases List.mem_append.1 he with he | he
               · exact h e (List.mem_of_mem_take he)
               · rw [List.mem_singleton] at he; rw [he]; exact h x hxm
             · exact h e (List.mem_of_mem_drop he)
           · split
             · split
               · exact h
               · rename_i y hy
                 exact hset _ _ _ (hset _ _ _ h (h y (List.mem_of_getElem? hy))) (h x hxm)
             · exact hset _ _ _ h (entOk_fork (h x hxm))
     · exact h
theorem lies_ok {dev : Int} : ∀ {rs : List Rul} {l : List Ent}, (∀ e ∈ l, Vw.entOk e = true) → ∀ e ∈ lies dev rs l, Vw.entOk e = true
 | [], _, h => h
 | r :: rs, l, h => by
  show ∀ e ∈ lies dev rs (if r.dev = dev then lie r.kind r.n l else l), _
  split
  · exact lies_ok (lie_ok h)
  · exact lies_ok h
theorem show_ok {s : St} {rs : List Rul} {dev f : Int} (h : (showL s rs dev f).2 = 0) : ∀ e ∈ (showL s rs dev f).1, Vw.entOk e = true := by
 obtain ⟨h1, h2⟩ := showL_ok h
 obtain ⟨_, _, h3, h4⟩ := shownL_ok h1
 rw [h2, h4]
 have hc := (open_fo (fetch_open h3)).1
 refine lies_ok fun e he => ?_
 have he2 : e ∈ ents s f := by
  unfold fetchS at he h3
  split at he
  · split at he
    · exact List.mem_of_mem_drop he
    · cases he
  · cases he
 rcases ents_fine hc f with h5 | h5
 · rw [h5] at he2; cases he2
 · exact entOk_of (((fineB_iff _).1 h5).1 e he2)
def collG (p q : List Nat) : List (List Nat) → List (List Nat) → Bool
 | x :: xs, y :: ys => if Sha.chain p x = Sha.chain q y ∧ (p ≠ q ∨ x ≠ y) then true else collG (Sha.chain p x) (Sha.chain q y) xs ys
 | _, _ => false
theorem collG_none : ∀ {xs ys : List (List Nat)} {p q : List Nat}, collG p q xs ys = false → (xs.take (min xs.length ys.length)).foldl Sha.chain p = (ys.take (min xs.length ys.length)).foldl Sha.chain q → p = q ∧ xs.take (min xs.length ys.length) = ys.take (min xs.length ys.length)
 | [], _, _, _, _, h => by simpa using h
 | _ :: _, [], _, _, _, h => by simpa using h
 | x :: xs, y :: ys, p, q, hc, h => by
  unfold collG at hc
  split at hc
  · cases hc
  · rename_i hn
    have hm : min (x :: xs).length (y :: ys).length = min xs.length ys.length + 1 := by simp only [List.length_cons]; omega
    rw [hm, List.take_succ_cons, List.take_succ_cons] at h ⊢
    obtain ⟨h1, h2⟩ := collG_none hc h
    by_cases hp : p = q
    · by_cases hx : x = y
      · exact ⟨hp, by rw [hx, h2]⟩
      · exact absurd ⟨h1, .inr hx⟩ hn
    · exact absurd ⟨h1, .inl hp⟩ hn
theorem apartE_iff : ∀ (a b : List Ent), apartE a b = false ↔ (a.map (·.dig)).take (min a.length b.length) = (b.map (·.dig)).take (min a.length b.length)
 | [], b => by unfold apartE; simp
 | x :: a, [] => by unfold apartE; simp
 | x :: a, y :: b => by
  have hm : min (x :: a).length (y :: b).length = min a.length b.length + 1 := by simp only [List.length_cons]; omega
  rw [hm, List.map_cons, List.map_cons, List.take_succ_cons, List.take_succ_cons]
  unfold apartE
  by_cases h : x.dig = y.dig
  · rw [if_pos h, apartE_iff a b, h]; simp
  · rw [if_neg h]; simp [h]
theorem top_law (fo : Int) (a b : List Ent) : (Vw.differ fo (a.map (·.dig)) (b.map (·.dig)) == apartE a b || (apartE a b && collG (chainD fo []) (chainD fo []) (a.map (·.dig)) (b.map (·.dig)))) = true := by
 have hl : min (a.map (·.dig)).length (b.map (·.dig)).length = min a.length b.length := by rw [List.length_map, List.length_map]
 cases ha : apartE a b with
 | false =>
  have h1 := (apartE_iff a b).1 ha
  have : Vw.differ fo (a.map (·.dig)) (b.map (·.dig)) = false := by
   unfold Vw.differ
   rw [hl, h1]
   simp
  rw [this]; rfl
 | true =>
  cases hd : Vw.differ fo (a.map (·.dig)) (b.map (·.dig)) with
  | true => rfl
  | false =>
   cases hc : collG (chainD fo []) (chainD fo []) (a.map (·.dig)) (b.map (·.dig)) with
   | true => rfl
   | false =>
    exfalso
    have h1 : chainD fo ((a.map (·.dig)).take (min a.length b.length)) = chainD fo ((b.map (·.dig)).take (min a.length b.length)) := by
     unfold Vw.differ at hd
     rw [hl] at hd
     simpa using hd
    have h2 := (collG_none hc (by rw [hl]; exact h1)).2
    rw [hl] at h2
    rw [(apartE_iff a b).2 h2] at ha
    cases ha
theorem dig_fork : (chainD 3 [entD 4 [97]] == chainD 3 [entryD 4 [97, 0]]) = false := by kernel_rfl
structure Tex (s t : St) (A : Ent) : Prop where
 id : s.id = 0
 priv : s.priv = 5
 logs : s.logs = []
 tid : t.id = 0
 tpriv : t.priv = 5
 put1 : putS s 3 4 [97] = (t, 1, 0)
 bd3 : BdL 0 (ents t 3)
 sh0 : shownL t [frk 0] 0 3 = ([A], [A], 0)
 sh1 : shownL t [frk 0] 1 3 = ([A], [forkE A], 0)
 okA : Vw.entOk A = true
 df : Vw.differ 3 [A.dig] [(forkE A).dig] = true
theorem tex_there : ∃ s t A, Tex s t A := by
 have hne := dig_fork
 obtain ⟨D, hD⟩ : ∃ D, entD 4 [97] = D := ⟨_, rfl⟩
 rw [hD] at hne
 have hdd : entryD 4 [97] = D := hD
 have o0 : openE ⟨0, 5, []⟩ 3 = 0 := by decide
 have k4 : kindB 4 = true := by decide
 have f1 : fineB [⟨4, D, [97], false⟩] = true := by
  have := putE_fine (l := []) (kind := 4) (data := [97]) (.inl rfl) (by decide) (by rw [hD]; simp) (by simp)
  unfold putE at this
  rw [hD] at this
  exact this
 have r1 : replS ⟨0, 5, []⟩ 3 [⟨4, D, [97], false⟩] = ⟨0, 5, [⟨3, [⟨4, D, [97], false⟩]⟩]⟩ := rfl
 have ct : chkS ⟨0, 5, [⟨3, [⟨4, D, [97], false⟩]⟩]⟩ = 0 := by rw [← r1]; exact replS_ok o0 f1
 have ox : openE ⟨0, 5, [⟨3, [⟨4, D, [97], false⟩]⟩]⟩ 3 = 0 := by rw [openE_iff]; exact ⟨ct, by decide⟩
 have fe : fetchS ⟨0, 5, [⟨3, [⟨4, D, [97], false⟩]⟩]⟩ 3 1 = ([⟨4, D, [97], false⟩], 0) := by
  unfold fetchS
  rw [if_pos ox, if_pos (by show (1 : Int) ≤ 1 ∧ (1 : Int) ≤ ((1 : Nat) : Int) + 1; decide)]
  rfl
 obtain ⟨h1, h0⟩ := shown_frk (n := 0) (e := ⟨4, D, [97], false⟩) ct (by rw [fe]) (by decide) (by rw [fe]; rfl)
 rw [fe] at h1 h0
 refine ⟨⟨0, 5, []⟩, ⟨0, 5, [⟨3, [⟨4, D, [97], false⟩]⟩]⟩, ⟨4, D, [97], false⟩, rfl, rfl, rfl, rfl, rfl, ?_, ?_, h0, h1, ?_, ?_⟩
 · unfold putS
   rw [if_pos o0, if_pos k4, hD]
   simp only [show ents ⟨0, 5, []⟩ 3 = [] from rfl, show idxE D [] = 0 from rfl]
   rw [if_neg (by simp), if_neg (by simp)]
   unfold putE
   rw [hD]
   rfl
 · exact ⟨by simp [ents, entsL], by simp [ents, entsL]⟩
 · unfold Vw.entOk
   simp [hdd, k4]
 · unfold Vw.differ forkE
   show decide (chainD 3 [D] ≠ chainD 3 [entryD 4 [97, 0]]) = true
   simpa using hne
end Go.Sto
namespace Go
theorem share {p G : Prop} (h : G → p) (key : G) : p := h key
end Go
namespace Go.Sto
theorem collG_step {p q : List Nat} {xs ys : List (List Nat)} {k : Nat} {x y : List Nat} (hx : xs[k]? = some x) (hy : ys[k]? = some y) : collG p q (xs.drop k) (ys.drop k) = if Sha.chain p x = Sha.chain q y ∧ (p ≠ q ∨ x ≠ y) then true else collG (Sha.chain p x) (Sha.chain q y) (xs.drop (k + 1)) (ys.drop (k + 1)) := by
 have hk := (List.getElem?_eq_some_iff.1 hx).1
 have hj := (List.getElem?_eq_some_iff.1 hy).1
 rw [List.drop_eq_getElem_cons hk, List.drop_eq_getElem_cons hj, (List.getElem?_eq_some_iff.1 hx).2, (List.getElem?_eq_some_iff.1 hy).2]
 rfl
theorem collG_end {p q : List Nat} {xs ys : List (List Nat)} {k : Nat} (h : xs.length ≤ k ∨ ys.length ≤ k) : collG p q (xs.drop k) (ys.drop k) = false := by
 rcases h with h | h
 · rw [List.drop_eq_nil_of_le h]; unfold collG; rfl
 · rw [List.drop_eq_nil_of_le h]
   cases xs.drop k with
   | nil => unfold collG; rfl
   | cons a l => unfold collG; rfl
end Go.Sto
namespace Go.Proofs.YtiionehcmoginaaGreatDoor
open Go.RowKit Go.Mem Go.Shelf
open Go.Sto (Ent)
set_option maxRecDepth 100000 in
set_option maxHeartbeats 40000000 in
theorem collide_any (f : Int) (hf : I64 f) (a1 : Option Addr) (n1 c1 : Nat) (l1 : List Ent) (a2 : Option Addr) (n2 c2 : Nat) (l2 : List Ent) (w : World) (HT : Tabs w) (H1 : ES (fun _ => True) w a1 n1 c1 l1) (H2 : ES (fun _ => True) w a2 n2 c2 l2) :
 Calls Tryz.prog 19 #[.int .i64 f, .slice a1 n1 c1, .slice a2 n2 c2] w (RetBo (Sto.collG (chainD f []) (chainD f []) (l1.map (·.dig)) (l2.map (·.dig))) w) := by
 have e1 := H1.rs.len
 have e2 := H2.rs.len
 have hbd1 := H1.bd
 have hbd2 := H2.bd
 have H1' := Lib.hid H1; have H2' := Lib.hid H2; have HT' := Lib.hid HT
 clear H1 H2 HT
 obtain ⟨D0, hD0⟩ : ∃ d, Hid (chainD f [] = d) := ⟨_, rfl⟩
 have hc0 := Lib.hid (fun W (h : Below w.heap.size w W) => storeChain_any f hf none 0 0 [] W (HT'.out.below h) (ds_nil W))
 have hd0 : Hid (D0.length = 32 ∧ ∀ u ∈ D0, u < 256) := by rw [← hD0.out]; exact chain_len f []
 rw [hD0.out] at hc0 ⊢
 obtain ⟨R, hR⟩ : ∃ R, Hid (Sto.collG D0 D0 (l1.map (·.dig)) (l2.map (·.dig)) = R) := ⟨_, rfl⟩
 obtain ⟨X, hX⟩ : ∃ X, Hid (X = RetBo R w) := ⟨_, rfl⟩
 have hfin : Hid (∀ b W, R = b → Below w.heap.size w W → X (.returned (.bool b)) W) := fun b W hb h => by rw [hX.out, hb]; exact ⟨rfl, h⟩
 rw [hR.out, ← hX.out]
 clear hX hD0
 go_enter Tryz.func19, Tryz.ntmps19
 go_wp2_with fail
 refine (hc0.out _ (Below.refl _ _)).mono ?_
 rintro e w1 ⟨rfl, hst⟩
 have hbw := Lib.hid hst
 clear hst
 go_wp2_with fail
 refine (hc0.out _ hbw.out).mono ?_
 rintro e w2 ⟨rfl, hst⟩
 replace hbw := Lib.hid (hbw.out.trans (hst.mono hbw.out.size))
 clear hst hc0
 have al : Below w2.heap.size w2 ((w2.alloc (.cells (bv (List.replicate 32 0)).toArray 32)).alloc (.cells (bv (List.replicate 32 0)).toArray 32)) := ((Below.refl _ w2).alloc (Nat.le_refl _) _).alloc (by simp) _
 have b7 := (Blk.new w2 32 (bv (List.replicate 32 0))).alloc (.cells (bv (List.replicate 32 0)).toArray 32)
 have b8 := Blk.new (w2.alloc (.cells (bv (List.replicate 32 0)).toArray 32)) 32 (bv (List.replicate 32 0))
 rw [World.size_alloc] at b8
 obtain ⟨v2a, hP7⟩ : ∃ V, Hid (PutR 32 ((w2.alloc (.cells (bv (List.replicate 32 0)).toArray 32)).alloc (.cells (bv (List.replicate 32 0)).toArray 32)) V w2.heap.size 32 (bv D0)) := put_row b7 (by simp [bv_length, hd0.out.1]) (by rw [bv_length, hd0.out.1]; exact size35) (bv_one _)
 have b9 := b8.grown hP7.out.grown (fun e => by injection e with e; omega)
 obtain ⟨v2, hP8⟩ : ∃ V, Hid (PutR 32 v2a V (w2.heap.size + 1) 32 (bv D0)) := put_row b9 (by simp [bv_length, hd0.out.1]) (by rw [bv_length, hd0.out.1]; exact size35) (bv_one _)
 have hst := below_grown (below_grown al hP7.out.grown al.size (Nat.le_refl _)) hP8.out.grown (Nat.le_trans al.size hP7.out.grown.size) (Nat.le_succ _)
 have hB7 := Lib.hid (hP7.out.blk.grown hP8.out.grown (fun e => by injection e with e; omega))
 have hB8 := Lib.hid hP8.out.blk
 have hw2 : Hid (w.heap.size ≤ w2.heap.size) := hbw.out.size
 replace hbw := Lib.hid (hbw.out.trans (hst.mono hbw.out.size))
 clear hst al b7 b8 b9
 have hrp := bv_length D0
 generalize hg : w2.heap.size = g7 at *
 go_wp2_with (first
  | (refine wpList_store_mid (by rfl) 32 _ _ (by rfl) g7 0 (bv D0).toArray (by rfl) (by rfl) hP7.out.there hP7.out.info (by simpa using hP7.out.one) ?_
     generalize hWq : World.setCells _ _ _ _ = Wa
     obtain rfl : v2a = Wa := by rw [← hWq]; exact hP7.out.eq
     clear hWq)
      | (refine wpList_store_mid (by rfl) 32 _ _ (by rfl) (g7 + 1) 0 (bv D0).toArray (by rfl) (by rfl) hP8.out.there hP8.out.info (by simpa using hP8.out.one) ?_
         generalize hWq : World.setCells _ _ _ _ = Wa
         obtain rfl : v2 = Wa := by rw [← hWq]; exact hP8.out.eq
         clear hWq))
 clear hP7 hP8 hrp hg w2
 go_loopw [9] (fun i wr => ∃ (k : Nat) (P Q : List Nat), k ≤ n1 ∧ i = .int .i64 k ∧ Hid (Blk wr g7 32 (bv P)) ∧ Hid (Blk wr (g7 + 1) 32 (bv Q)) ∧ Hid (P.length = 32 ∧ ∀ u ∈ P, u < 256) ∧ Hid (Q.length = 32 ∧ ∀ u ∈ Q, u < 256) ∧ Hid (Sto.collG P Q ((l1.map (·.dig)).drop k) ((l2.map (·.dig)).drop k) = R) ∧ Hid (Below w.heap.size w wr)) (fun i _ => n1 - (intOf i).toNat)
 case atStart => exact ⟨0, D0, D0, Nat.zero_le _, rfl, hB7, hB8, hd0, hd0, hR, hbw⟩
 case round =>
  obtain ⟨k, P, Q, hk, rfl, hB7r, hB8r, hP, hQ, hcl, hbt⟩ := hrel
  clear hB7 hB8 hbw hR
  by_cases h1 : k < n1
  case neg =>
   have hf := Lib.hid (hfin.out false wr (by rw [← hcl.out]; exact Sto.collG_end (.inl (by rw [List.length_map]; omega))) hbt.out)
   clear hcl
   go_wp2_with fail
   exact hf.out
  case pos =>
   by_cases h2 : k < n2
   case neg =>
    have hf := Lib.hid (hfin.out false wr (by rw [← hcl.out]; exact Sto.collG_end (.inr (by rw [List.length_map]; omega))) hbt.out)
    clear hcl
    go_wp2_with fail
    exact hf.out
   case pos =>
    have kw : IntKind.i64.wrap ((k : Int) + 1) = (k : Int) + 1 := IntWalk.i64_in _ (by omega)
    obtain ⟨x, hx⟩ : ∃ x, l1[k]? = some x := ⟨_, List.getElem?_eq_getElem (by omega)⟩
    obtain ⟨y, hy⟩ : ∃ y, l2[k]? = some y := ⟨_, List.getElem?_eq_getElem (by omega)⟩
    have hst0 := Sto.collG_step (p := P) (q := Q) (xs := l1.map (·.dig)) (ys := l2.map (·.dig)) (k := k) (x := x.dig) (y := y.dig) (by rw [List.getElem?_map, hx]; rfl) (by rw [List.getElem?_map, hy]; rfl)
    rw [hcl.out] at hst0
    obtain ⟨b1, o1, r1, rfl, hl1, _, ⟨ox, _, _, _, er1, _⟩, _, hrg1⟩ := (H1'.out.below hbt.out).rs.get hx
    obtain ⟨b2, o2, r2, rfl, hl2, _, ⟨oy, _, _, _, er2, _⟩, _, hrg2⟩ := (H2'.out.below hbt.out).rs.get hy
    rw [er1] at hrg1
    rw [er2] at hrg2
    obtain ⟨DX, hDX⟩ : ∃ d, Hid (x.dig = d) := ⟨_, rfl⟩
    obtain ⟨DY, hDY⟩ : ∃ d, Hid (y.dig = d) := ⟨_, rfl⟩
    have hdx : Hid (wr.rangeAt b1 (o1 + k * 35 + 1) (bv DX)) := by rw [← hDX.out]; exact (EntR.of hrg1 ox.dig).dig
    have hdy : Hid (wr.rangeAt b2 (o2 + k * 35 + 1) (bv DY)) := by rw [← hDY.out]; exact (EntR.of hrg2 oy.dig).dig
    have hX : Hid (DX.length = 32 ∧ ∀ u ∈ DX, u < 256) := by rw [← hDX.out]; exact ⟨ox.dig, ox.lt⟩
    have hY : Hid (DY.length = 32 ∧ ∀ u ∈ DY, u < 256) := by rw [← hDY.out]; exact ⟨oy.dig, oy.lt⟩
    rw [hDX.out, hDY.out] at hst0
    obtain ⟨P', hP'⟩ : ∃ d, Hid (Sha.chain P DX = d) := ⟨_, rfl⟩
    obtain ⟨Q', hQ'⟩ : ∃ d, Hid (Sha.chain Q DY = d) := ⟨_, rfl⟩
    rw [hP'.out, hQ'.out] at hst0
    have hst' := Lib.hid hst0
    have dP' : Hid (P'.length = 32 ∧ ∀ u ∈ P', u < 256) := by rw [← hP'.out]; exact ⟨Sha.tagged_length _ _, Sha.tagged_lt _ _⟩
    have dQ' : Hid (Q'.length = 32 ∧ ∀ u ∈ Q', u < 256) := by rw [← hQ'.out]; exact ⟨Sha.tagged_length _ _, Sha.tagged_lt _ _⟩
    have hca := Lib.hid (fun W (h : Below w.heap.size w W) => chain_any P DX W (HT'.out.below h) hP.out.1 hX.out.1 hP.out.2 hX.out.2)
    have hcb := Lib.hid (fun W (h : Below w.heap.size w W) => chain_any Q DY W (HT'.out.below h) hQ.out.1 hY.out.1 hQ.out.2 hY.out.2)
    rw [hP'.out] at hca
    rw [hQ'.out] at hcb
    have inf : ∀ d : List Nat, (d.length = 32 ∧ ∀ u ∈ d, u < 256) → (Tryz.prog.info? 32).map (·.size) = some (bv d).length := fun d h => by rw [bv_length, h.1]; exact size35
    have iP := Lib.hid (inf P hP.out)
    have iQ := Lib.hid (inf Q hQ.out)
    have iX := Lib.hid (inf DX hX.out)
    have iY := Lib.hid (inf DY hY.out)
    have iP' := Lib.hid (inf P' dP'.out)
    have iQ' := Lib.hid (inf Q' dQ'.out)
    have r7 := Lib.hid hB7r.out.range
    have r8 := Lib.hid hB8r.out.range
    have lt7 : g7 < wr.heap.size := hB7r.out.lt
    have lt8 : g7 + 1 < wr.heap.size := hB8r.out.lt
    have eqR := fun W => eq_dig (x := P') (y := Q') dP'.out dQ'.out W
    have eqP := fun W => eq_dig (x := P) (y := Q) hP.out hQ.out W
    have eqX := fun W => eq_dig (x := DX) (y := DY) hX.out hY.out W
    have k0 : (0 : Int) ≤ (k : Int) := by omega
    have k1 : (k : Int) < (n1 : Int) := by omega
    have k2 : (k : Int) < (n2 : Int) := by omega
    clear hst0 hx hy hrg1 hrg2 er1 er2 ox oy hDX hDY hcl inf hP' hQ'
    go_upto_region 5 with fail
    refine share (G := ∀ (q14 : Nat) (q15 : Nat) (WZ : World), (Below wr.heap.size wr WZ) → (Blk WZ q14 32 (bv P')) → (wr.heap.size ≤ q14) → (Blk WZ q15 32 (bv Q')) → (wr.heap.size ≤ q15) → (q14 ≠ q15) → (?GfinR5 : Nat → Nat → World → Prop) q14 q15 WZ) ?hfinR5 ?kfinR5
    case' hfinR5 =>
     intro KfinR5
    case' hfinR5 =>
     refine share (G := ∀ (q14 : Nat) (q15 : Nat) (WZ : World), (Below wr.heap.size wr WZ) → (Blk WZ q14 32 (bv P')) → (wr.heap.size ≤ q14) → (Blk WZ q15 32 (bv (List.replicate 32 0))) → (wr.heap.size ≤ q15) → (q14 ≠ q15) → (?Gs3_14_15_R5 : Nat → Nat → World → Prop) q14 q15 WZ) ?hs3_14_15_R5 ?ks3_14_15_R5
    case' hs3_14_15_R5 => intro Ks3_14_15_R5
    case' hs3_14_15_R5 =>
     refine share (G := ∀ (q14 : Nat) (q15 : Nat) (WZ : World), (Below wr.heap.size wr WZ) → (Blk WZ q14 32 (bv (List.replicate 32 0))) → (wr.heap.size ≤ q14) → (Blk WZ q15 32 (bv (List.replicate 32 0))) → (wr.heap.size ≤ q15) → (q14 ≠ q15) → (?Gs2_14_15_R5 : Nat → Nat → World → Prop) q14 q15 WZ) ?hs2_14_15_R5 ?ks2_14_15_R5
    case' hs2_14_15_R5 => intro Ks2_14_15_R5
    case' hs2_14_15_R5 =>
     refine share (G := ∀ (q14 : Nat) (WZ : World), (Below wr.heap.size wr WZ) → (Blk WZ q14 32 (bv (List.replicate 32 0))) → (wr.heap.size ≤ q14) → (?Gs2_14_R5 : Nat → World → Prop) q14 WZ) ?hs2_14_R5 ?ks2_14_R5
    case' hs2_14_R5 => intro Ks2_14_R5
    case' hs2_14_R5 =>
     refine share (G := ∀ (q15 : Nat) (WZ : World), (Below wr.heap.size wr WZ) → (Blk WZ q15 32 (bv (List.replicate 32 0))) → (wr.heap.size ≤ q15) → (?Gs2_15_R5 : Nat → World → Prop) q15 WZ) ?hs2_15_R5 ?ks2_15_R5
    case' hs2_15_R5 => intro Ks2_15_R5
    case' hs2_15_R5 =>
     refine share (G := ∀ (WZ : World), (Below wr.heap.size wr WZ) → (?Gs2_R5 : World → Prop) WZ) ?hs2_R5 ?ks2_R5
    case' hs2_R5 => intro Ks2_R5
    case' hs2_R5 =>
     refine share (G := ∀ (q14 : Nat) (q15 : Nat) (WZ : World), (Below wr.heap.size wr WZ) → (Blk WZ q14 32 (bv (List.replicate 32 0))) → (wr.heap.size ≤ q14) → (Blk WZ q15 32 (bv (List.replicate 32 0))) → (wr.heap.size ≤ q15) → (q14 ≠ q15) → (?Gs1_14_15_R5 : Nat → Nat → World → Prop) q14 q15 WZ) ?hs1_14_15_R5 ?ks1_14_15_R5
    case' hs1_14_15_R5 => intro Ks1_14_15_R5
    case' hs1_14_15_R5 =>
     refine share (G := ∀ (q14 : Nat) (WZ : World), (Below wr.heap.size wr WZ) → (Blk WZ q14 32 (bv (List.replicate 32 0))) → (wr.heap.size ≤ q14) → (?Gs1_14_R5 : Nat → World → Prop) q14 WZ) ?hs1_14_R5 ?ks1_14_R5
    case' hs1_14_R5 => intro Ks1_14_R5
    case' hs1_14_R5 =>
     refine share (G := ∀ (q15 : Nat) (WZ : World), (Below wr.heap.size wr WZ) → (Blk WZ q15 32 (bv (List.replicate 32 0))) → (wr.heap.size ≤ q15) → (?Gs1_15_R5 : Nat → World → Prop) q15 WZ) ?hs1_15_R5 ?ks1_15_R5
    case' hs1_15_R5 => intro Ks1_15_R5
    case' hs1_15_R5 =>
     refine share (G := ∀ (WZ : World), (Below wr.heap.size wr WZ) → (?Gs1_R5 : World → Prop) WZ) ?hs1_R5 ?ks1_R5
    case' hs1_R5 => intro Ks1_R5
    case' hs1_R5 =>
     refine share (G := ∀ (q14 : Nat) (q15 : Nat) (WZ : World), (Below wr.heap.size wr WZ) → (Blk WZ q14 32 (bv (List.replicate 32 0))) → (wr.heap.size ≤ q14) → (Blk WZ q15 32 (bv (List.replicate 32 0))) → (wr.heap.size ≤ q15) → (q14 ≠ q15) → (?Gs0_14_15_R5 : Nat → Nat → World → Prop) q14 q15 WZ) ?hs0_14_15_R5 ?ks0_14_15_R5
    case' hs0_14_15_R5 => intro Ks0_14_15_R5
    case' hs0_14_15_R5 =>
     refine share (G := ∀ (q14 : Nat) (WZ : World), (Below wr.heap.size wr WZ) → (Blk WZ q14 32 (bv (List.replicate 32 0))) → (wr.heap.size ≤ q14) → (?Gs0_14_R5 : Nat → World → Prop) q14 WZ) ?hs0_14_R5 ?ks0_14_R5
    case' hs0_14_R5 => intro Ks0_14_R5
    case' hs0_14_R5 =>
     refine share (G := ∀ (q15 : Nat) (WZ : World), (Below wr.heap.size wr WZ) → (Blk WZ q15 32 (bv (List.replicate 32 0))) → (wr.heap.size ≤ q15) → (?Gs0_15_R5 : Nat → World → Prop) q15 WZ) ?hs0_15_R5 ?ks0_15_R5
    case' hs0_15_R5 => intro Ks0_15_R5
    case hs0_15_R5 =>
     refine wp_region_held_drew (S := fun wz => Below wr.heap.size wr wz) (by kernel_rfl) ((Below.refl _ wr).drew) (fun hHeld => ?_)
     generalize wr.drew = WZ at *
     refine tk (i := 0) (oi := ⟨some 28, .load 32 (.tmp 7), 32, "top32.go:17", #[], none⟩) rfl (yieldsIf_load_mid (by rfl) _ _ rfl g7 0 rfl (bv P) _ (fun wz h => fun j v hv => (h.cell (p := ⟨g7, _, none⟩) lt7).trans (r7.out j v hv)) Tryz.underlying32 rfl (iP.out)) hHeld ?_
     refine tkq (i := 1) (oi := ⟨some 29, .move (.tmp 1), 30, "top32.go:17", #[], none⟩) rfl hHeld ?_
     refine tkq (i := 2) (oi := ⟨some 30, .move (.tmp 9), 3, "top32.go:17", #[], none⟩) rfl hHeld ?_
     refine tkq (i := 3) (oi := ⟨some 31, .indexAddr 30 (.tmp 29) (.tmp 30), 0, "top32.go:17", #[⟨1, .data⟩, ⟨2, .data⟩], none⟩) rfl hHeld ?_
     refine tkq (i := 4) (oi := ⟨some 32, .fieldAddr 78 (.tmp 31) 1, 0, "top32.go:17", #[⟨3, .data⟩], none⟩) rfl hHeld ?_
     refine tk (i := 5) (oi := ⟨some 33, .load 32 (.tmp 32), 32, "top32.go:17", #[⟨4, .data⟩], none⟩) rfl (yieldsIf_load_mid (by rfl) _ _ rfl b1 (o1 + k * 35 + 1) rfl (bv DX) _ (fun wz h => fun j v hv => (h.cell (p := ⟨b1, _, none⟩) hl1).trans (hdx.out j v hv)) Tryz.underlying32 rfl (iX.out)) hHeld ?_
     refine tk (i := 7) (oi := ⟨some 35, .load 32 (.tmp 8), 32, "top32.go:17", #[], none⟩) rfl (yieldsIf_load_mid (by rfl) _ _ rfl (g7 + 1) 0 rfl (bv Q) _ (fun wz h => fun j v hv => (h.cell (p := ⟨(g7 + 1), _, none⟩) lt8).trans (r8.out j v hv)) Tryz.underlying32 rfl (iQ.out)) hHeld ?_
     refine tkq (i := 8) (oi := ⟨some 36, .move (.tmp 2), 30, "top32.go:17", #[], none⟩) rfl hHeld ?_
     refine tkq (i := 9) (oi := ⟨some 37, .move (.tmp 9), 3, "top32.go:17", #[], none⟩) rfl hHeld ?_
     refine tkq (i := 10) (oi := ⟨some 38, .indexAddr 30 (.tmp 36) (.tmp 37), 0, "top32.go:17", #[⟨8, .data⟩, ⟨9, .data⟩], none⟩) rfl hHeld ?_
     refine tkq (i := 11) (oi := ⟨some 39, .fieldAddr 78 (.tmp 38) 1, 0, "top32.go:17", #[⟨10, .data⟩], none⟩) rfl hHeld ?_
     refine tk (i := 12) (oi := ⟨some 40, .load 32 (.tmp 39), 32, "top32.go:17", #[⟨11, .data⟩], none⟩) rfl (yieldsIf_load_mid (by rfl) _ _ rfl b2 (o2 + k * 35 + 1) rfl (bv DY) _ (fun wz h => fun j v hv => (h.cell (p := ⟨b2, _, none⟩) hl2).trans (hdy.out j v hv)) Tryz.underlying32 rfl (iY.out)) hHeld ?_
     refine Go.rd (rs := [6, 14, 15]) ?_
     refine Go.rc (o := ⟨some 34, .call { callee := .value (.func 52), args := #[.tmp 28, .tmp 33], argTypes := #[32, 32] }, 32, "top32.go:17", #[⟨0, .data⟩, ⟨5, .data⟩], none⟩) rfl (fun K hK => ?_) (Go.rc (o := ⟨some 10, .alloc 32, 0, "top32.go:17", #[], none⟩) rfl (fun K hK => ?_) (Go.rc (o := ⟨some 11, .alloc 32, 0, "top32.go:17", #[], none⟩) rfl (fun K hK => ?_) Go.rn))
     case refine_1 =>
      go_simp
      go_at_call 52
      refine (hca.out _ (hbt.out.trans (hHeld.mono hbt.out.size))).mono ?_
      rintro e wq ⟨rfl, hst⟩


      refine hK.out _ _ (hHeld.trans (hst.mono hHeld.size)) (fun hHeld2 => ?_)
      clear hK K
      try simp only [Act.put, sA, s0, s1]
      exact Ks1_R5  wq (hHeld2)
     case refine_2 =>
      go_simp
      refine hK.out _ _ (hHeld.alloc hHeld.size _) (fun hHeld2 => ?_)
      clear hK K
      try simp only [Act.put, sA, s0, s1]
      generalize hW2 : World.alloc WZ _ = W2
      rw [hW2] at hHeld2
      generalize hq : WZ.heap.size = q14
      have hBn : Blk W2 q14 32 (bv (List.replicate 32 0)) := by rw [← hW2, ← hq]; exact Blk.new _ _ _
      have hLn := hHeld.size
      rw [hq] at hLn
      clear hW2 hq
      exact Ks0_14_R5 q14 W2 (hHeld2) (hBn) (hLn)
     case refine_3 =>
      go_simp
      refine hK.out _ _ (hHeld.alloc hHeld.size _) (fun hHeld2 => ?_)
      clear hK K
      try simp only [Act.put, sA, s0, s1]
      generalize hW2 : World.alloc WZ _ = W2
      rw [hW2] at hHeld2
      generalize hq : WZ.heap.size = q15
      have hBn : Blk W2 q15 32 (bv (List.replicate 32 0)) := by rw [← hW2, ← hq]; exact Blk.new _ _ _
      have hLn := hHeld.size
      rw [hq] at hLn
      clear hW2 hq
      exact Ks0_15_R5 q15 W2 (hHeld2) (hBn) (hLn)
    case ks0_15_R5 =>
     intro q15 WZ hHeld hB15 hL15
     refine Go.rd (rs := [6, 14]) ?_
     refine Go.rc (o := ⟨some 34, .call { callee := .value (.func 52), args := #[.tmp 28, .tmp 33], argTypes := #[32, 32] }, 32, "top32.go:17", #[⟨0, .data⟩, ⟨5, .data⟩], none⟩) rfl (fun K hK => ?_) (Go.rc (o := ⟨some 10, .alloc 32, 0, "top32.go:17", #[], none⟩) rfl (fun K hK => ?_) Go.rn)
     case refine_1 =>
      go_simp
      go_at_call 52
      refine (hca.out _ (hbt.out.trans (hHeld.mono hbt.out.size))).mono ?_
      rintro e wq ⟨rfl, hst⟩


      refine hK.out _ _ (hHeld.trans (hst.mono hHeld.size)) (fun hHeld2 => ?_)
      clear hK K
      try simp only [Act.put, sA, s0, s1]
      exact Ks1_15_R5 q15 wq (hHeld2) (hB15.below hst hB15.lt) (hL15)
     case refine_2 =>
      go_simp
      refine hK.out _ _ (hHeld.alloc hHeld.size _) (fun hHeld2 => ?_)
      clear hK K
      try simp only [Act.put, sA, s0, s1]
      generalize hW2 : World.alloc WZ _ = W2
      rw [hW2] at hHeld2
      generalize hq : WZ.heap.size = q14
      have hBn : Blk W2 q14 32 (bv (List.replicate 32 0)) := by rw [← hW2, ← hq]; exact Blk.new _ _ _
      have hLn := hHeld.size
      rw [hq] at hLn
      have hB15' : Blk W2 q15 32 (bv (List.replicate 32 0)) := by rw [← hW2]; exact hB15.alloc _
      have hN15' := hB15.lt
      rw [hq] at hN15'
      clear hW2 hq
      exact Ks0_14_15_R5 q14 q15 W2 (hHeld2) (hBn) (hLn) (hB15') (hL15) ((by omega))
    case ks0_14_R5 =>
     intro q14 WZ hHeld hB14 hL14
     refine Go.rd (rs := [6, 15]) ?_
     refine Go.rc (o := ⟨some 34, .call { callee := .value (.func 52), args := #[.tmp 28, .tmp 33], argTypes := #[32, 32] }, 32, "top32.go:17", #[⟨0, .data⟩, ⟨5, .data⟩], none⟩) rfl (fun K hK => ?_) (Go.rc (o := ⟨some 11, .alloc 32, 0, "top32.go:17", #[], none⟩) rfl (fun K hK => ?_) Go.rn)
     case refine_1 =>
      go_simp
      go_at_call 52
      refine (hca.out _ (hbt.out.trans (hHeld.mono hbt.out.size))).mono ?_
      rintro e wq ⟨rfl, hst⟩


      refine hK.out _ _ (hHeld.trans (hst.mono hHeld.size)) (fun hHeld2 => ?_)
      clear hK K
      try simp only [Act.put, sA, s0, s1]
      exact Ks1_14_R5 q14 wq (hHeld2) (hB14.below hst hB14.lt) (hL14)
     case refine_2 =>
      go_simp
      refine hK.out _ _ (hHeld.alloc hHeld.size _) (fun hHeld2 => ?_)
      clear hK K
      try simp only [Act.put, sA, s0, s1]
      generalize hW2 : World.alloc WZ _ = W2
      rw [hW2] at hHeld2
      generalize hq : WZ.heap.size = q15
      have hBn : Blk W2 q15 32 (bv (List.replicate 32 0)) := by rw [← hW2, ← hq]; exact Blk.new _ _ _
      have hLn := hHeld.size
      rw [hq] at hLn
      have hB14' : Blk W2 q14 32 (bv (List.replicate 32 0)) := by rw [← hW2]; exact hB14.alloc _
      have hN14' := hB14.lt
      rw [hq] at hN14'
      clear hW2 hq
      exact Ks0_14_15_R5 q14 q15 W2 (hHeld2) (hB14') (hL14) (hBn) (hLn) ((by omega))
    case ks0_14_15_R5 =>
     intro q14 q15 WZ hHeld hB14 hL14 hB15 hL15 hN14_15
     refine Go.rd (rs := [6]) ?_
     refine Go.rc (o := ⟨some 34, .call { callee := .value (.func 52), args := #[.tmp 28, .tmp 33], argTypes := #[32, 32] }, 32, "top32.go:17", #[⟨0, .data⟩, ⟨5, .data⟩], none⟩) rfl (fun K hK => ?_) Go.rn
     go_simp
     go_at_call 52
     refine (hca.out _ (hbt.out.trans (hHeld.mono hbt.out.size))).mono ?_
     rintro e wq ⟨rfl, hst⟩


     refine hK.out _ _ (hHeld.trans (hst.mono hHeld.size)) (fun hHeld2 => ?_)
     clear hK K
     try simp only [Act.put, sA, s0, s1]
     exact Ks1_14_15_R5 q14 q15 wq (hHeld2) (hB14.below hst hB14.lt) (hL14) (hB15.below hst hB15.lt) (hL15) (hN14_15)
    case ks1_R5 =>
     intro  WZ hHeld
     refine Go.rd (rs := [13, 14, 15]) ?_
     refine Go.rc (o := ⟨some 41, .call { callee := .value (.func 52), args := #[.tmp 35, .tmp 40], argTypes := #[32, 32] }, 32, "top32.go:17", #[⟨7, .data⟩, ⟨12, .data⟩, ⟨6, .chain⟩], none⟩) rfl (fun K hK => ?_) (Go.rc (o := ⟨some 10, .alloc 32, 0, "top32.go:17", #[], none⟩) rfl (fun K hK => ?_) (Go.rc (o := ⟨some 11, .alloc 32, 0, "top32.go:17", #[], none⟩) rfl (fun K hK => ?_) Go.rn))
     case refine_1 =>
      go_simp
      go_at_call 52
      refine (hcb.out _ (hbt.out.trans (hHeld.mono hbt.out.size))).mono ?_
      rintro e wq ⟨rfl, hst⟩


      refine hK.out _ _ (hHeld.trans (hst.mono hHeld.size)) (fun hHeld2 => ?_)
      clear hK K
      try simp only [Act.put, sA, s0, s1]
      exact Ks2_R5  wq (hHeld2)
     case refine_2 =>
      go_simp
      refine hK.out _ _ (hHeld.alloc hHeld.size _) (fun hHeld2 => ?_)
      clear hK K
      try simp only [Act.put, sA, s0, s1]
      generalize hW2 : World.alloc WZ _ = W2
      rw [hW2] at hHeld2
      generalize hq : WZ.heap.size = q14
      have hBn : Blk W2 q14 32 (bv (List.replicate 32 0)) := by rw [← hW2, ← hq]; exact Blk.new _ _ _
      have hLn := hHeld.size
      rw [hq] at hLn
      clear hW2 hq
      exact Ks1_14_R5 q14 W2 (hHeld2) (hBn) (hLn)
     case refine_3 =>
      go_simp
      refine hK.out _ _ (hHeld.alloc hHeld.size _) (fun hHeld2 => ?_)
      clear hK K
      try simp only [Act.put, sA, s0, s1]
      generalize hW2 : World.alloc WZ _ = W2
      rw [hW2] at hHeld2
      generalize hq : WZ.heap.size = q15
      have hBn : Blk W2 q15 32 (bv (List.replicate 32 0)) := by rw [← hW2, ← hq]; exact Blk.new _ _ _
      have hLn := hHeld.size
      rw [hq] at hLn
      clear hW2 hq
      exact Ks1_15_R5 q15 W2 (hHeld2) (hBn) (hLn)
    case ks1_15_R5 =>
     intro q15 WZ hHeld hB15 hL15
     refine Go.rd (rs := [13, 14]) ?_
     refine Go.rc (o := ⟨some 41, .call { callee := .value (.func 52), args := #[.tmp 35, .tmp 40], argTypes := #[32, 32] }, 32, "top32.go:17", #[⟨7, .data⟩, ⟨12, .data⟩, ⟨6, .chain⟩], none⟩) rfl (fun K hK => ?_) (Go.rc (o := ⟨some 10, .alloc 32, 0, "top32.go:17", #[], none⟩) rfl (fun K hK => ?_) Go.rn)
     case refine_1 =>
      go_simp
      go_at_call 52
      refine (hcb.out _ (hbt.out.trans (hHeld.mono hbt.out.size))).mono ?_
      rintro e wq ⟨rfl, hst⟩


      refine hK.out _ _ (hHeld.trans (hst.mono hHeld.size)) (fun hHeld2 => ?_)
      clear hK K
      try simp only [Act.put, sA, s0, s1]
      exact Ks2_15_R5 q15 wq (hHeld2) (hB15.below hst hB15.lt) (hL15)
     case refine_2 =>
      go_simp
      refine hK.out _ _ (hHeld.alloc hHeld.size _) (fun hHeld2 => ?_)
      clear hK K
      try simp only [Act.put, sA, s0, s1]
      generalize hW2 : World.alloc WZ _ = W2
      rw [hW2] at hHeld2
      generalize hq : WZ.heap.size = q14
      have hBn : Blk W2 q14 32 (bv (List.replicate 32 0)) := by rw [← hW2, ← hq]; exact Blk.new _ _ _
      have hLn := hHeld.size
      rw [hq] at hLn
      have hB15' : Blk W2 q15 32 (bv (List.replicate 32 0)) := by rw [← hW2]; exact hB15.alloc _
      have hN15' := hB15.lt
      rw [hq] at hN15'
      clear hW2 hq
      exact Ks1_14_15_R5 q14 q15 W2 (hHeld2) (hBn) (hLn) (hB15') (hL15) ((by omega))
    case ks1_14_R5 =>
     intro q14 WZ hHeld hB14 hL14
     refine Go.rd (rs := [13, 15]) ?_
     refine Go.rc (o := ⟨some 41, .call { callee := .value (.func 52), args := #[.tmp 35, .tmp 40], argTypes := #[32, 32] }, 32, "top32.go:17", #[⟨7, .data⟩, ⟨12, .data⟩, ⟨6, .chain⟩], none⟩) rfl (fun K hK => ?_) (Go.rc (o := ⟨some 11, .alloc 32, 0, "top32.go:17", #[], none⟩) rfl (fun K hK => ?_) Go.rn)
     case refine_1 =>
      go_simp
      go_at_call 52
      refine (hcb.out _ (hbt.out.trans (hHeld.mono hbt.out.size))).mono ?_
      rintro e wq ⟨rfl, hst⟩


      refine hK.out _ _ (hHeld.trans (hst.mono hHeld.size)) (fun hHeld2 => ?_)
      clear hK K
      try simp only [Act.put, sA, s0, s1]
      exact Ks2_14_R5 q14 wq (hHeld2) (hB14.below hst hB14.lt) (hL14)
     case refine_2 =>
      go_simp
      refine hK.out _ _ (hHeld.alloc hHeld.size _) (fun hHeld2 => ?_)
      clear hK K
      try simp only [Act.put, sA, s0, s1]
      generalize hW2 : World.alloc WZ _ = W2
      rw [hW2] at hHeld2
      generalize hq : WZ.heap.size = q15
      have hBn : Blk W2 q15 32 (bv (List.replicate 32 0)) := by rw [← hW2, ← hq]; exact Blk.new _ _ _
      have hLn := hHeld.size
      rw [hq] at hLn
      have hB14' : Blk W2 q14 32 (bv (List.replicate 32 0)) := by rw [← hW2]; exact hB14.alloc _
      have hN14' := hB14.lt
      rw [hq] at hN14'
      clear hW2 hq
      exact Ks1_14_15_R5 q14 q15 W2 (hHeld2) (hB14') (hL14) (hBn) (hLn) ((by omega))
    case ks1_14_15_R5 =>
     intro q14 q15 WZ hHeld hB14 hL14 hB15 hL15 hN14_15
     refine Go.rd (rs := [13]) ?_
     refine Go.rc (o := ⟨some 41, .call { callee := .value (.func 52), args := #[.tmp 35, .tmp 40], argTypes := #[32, 32] }, 32, "top32.go:17", #[⟨7, .data⟩, ⟨12, .data⟩, ⟨6, .chain⟩], none⟩) rfl (fun K hK => ?_) Go.rn
     go_simp
     go_at_call 52
     refine (hcb.out _ (hbt.out.trans (hHeld.mono hbt.out.size))).mono ?_
     rintro e wq ⟨rfl, hst⟩


     refine hK.out _ _ (hHeld.trans (hst.mono hHeld.size)) (fun hHeld2 => ?_)
     clear hK K
     try simp only [Act.put, sA, s0, s1]
     exact Ks2_14_15_R5 q14 q15 wq (hHeld2) (hB14.below hst hB14.lt) (hL14) (hB15.below hst hB15.lt) (hL15) (hN14_15)
    case ks2_R5 =>
     intro  WZ hHeld
     refine Go.rd (rs := [14, 15]) ?_
     refine Go.rc (o := ⟨some 10, .alloc 32, 0, "top32.go:17", #[], none⟩) rfl (fun K hK => ?_) (Go.rc (o := ⟨some 11, .alloc 32, 0, "top32.go:17", #[], none⟩) rfl (fun K hK => ?_) Go.rn)
     case refine_1 =>
      go_simp
      refine hK.out _ _ (hHeld.alloc hHeld.size _) (fun hHeld2 => ?_)
      clear hK K
      try simp only [Act.put, sA, s0, s1]
      generalize hW2 : World.alloc WZ _ = W2
      rw [hW2] at hHeld2
      generalize hq : WZ.heap.size = q14
      have hBn : Blk W2 q14 32 (bv (List.replicate 32 0)) := by rw [← hW2, ← hq]; exact Blk.new _ _ _
      have hLn := hHeld.size
      rw [hq] at hLn
      clear hW2 hq
      exact Ks2_14_R5 q14 W2 (hHeld2) (hBn) (hLn)
     case refine_2 =>
      go_simp
      refine hK.out _ _ (hHeld.alloc hHeld.size _) (fun hHeld2 => ?_)
      clear hK K
      try simp only [Act.put, sA, s0, s1]
      generalize hW2 : World.alloc WZ _ = W2
      rw [hW2] at hHeld2
      generalize hq : WZ.heap.size = q15
      have hBn : Blk W2 q15 32 (bv (List.replicate 32 0)) := by rw [← hW2, ← hq]; exact Blk.new _ _ _
      have hLn := hHeld.size
      rw [hq] at hLn
      clear hW2 hq
      exact Ks2_15_R5 q15 W2 (hHeld2) (hBn) (hLn)
    case ks2_15_R5 =>
     intro q15 WZ hHeld hB15 hL15
     refine Go.rd (rs := [14]) ?_
     refine Go.rc (o := ⟨some 10, .alloc 32, 0, "top32.go:17", #[], none⟩) rfl (fun K hK => ?_) Go.rn
     go_simp
     refine hK.out _ _ (hHeld.alloc hHeld.size _) (fun hHeld2 => ?_)
     clear hK K
     try simp only [Act.put, sA, s0, s1]
     generalize hW2 : World.alloc WZ _ = W2
     rw [hW2] at hHeld2
     generalize hq : WZ.heap.size = q14
     have hBn : Blk W2 q14 32 (bv (List.replicate 32 0)) := by rw [← hW2, ← hq]; exact Blk.new _ _ _
     have hLn := hHeld.size
     rw [hq] at hLn
     have hB15' : Blk W2 q15 32 (bv (List.replicate 32 0)) := by rw [← hW2]; exact hB15.alloc _
     have hN15' := hB15.lt
     rw [hq] at hN15'
     clear hW2 hq
     exact Ks2_14_15_R5 q14 q15 W2 (hHeld2) (hBn) (hLn) (hB15') (hL15) ((by omega))
    case ks2_14_R5 =>
     intro q14 WZ hHeld hB14 hL14
     refine Go.rd (rs := [15]) ?_
     refine Go.rc (o := ⟨some 11, .alloc 32, 0, "top32.go:17", #[], none⟩) rfl (fun K hK => ?_) Go.rn
     go_simp
     refine hK.out _ _ (hHeld.alloc hHeld.size _) (fun hHeld2 => ?_)
     clear hK K
     try simp only [Act.put, sA, s0, s1]
     generalize hW2 : World.alloc WZ _ = W2
     rw [hW2] at hHeld2
     generalize hq : WZ.heap.size = q15
     have hBn : Blk W2 q15 32 (bv (List.replicate 32 0)) := by rw [← hW2, ← hq]; exact Blk.new _ _ _
     have hLn := hHeld.size
     rw [hq] at hLn
     have hB14' : Blk W2 q14 32 (bv (List.replicate 32 0)) := by rw [← hW2]; exact hB14.alloc _
     have hN14' := hB14.lt
     rw [hq] at hN14'
     clear hW2 hq
     exact Ks2_14_15_R5 q14 q15 W2 (hHeld2) (hB14') (hL14) (hBn) (hLn) ((by omega))
    case ks2_14_15_R5 =>
     intro q14 q15 WZ hHeld hB14 hL14 hB15 hL15 hN14_15
     refine Go.rd (rs := [16]) ?_
     refine AllReadyH.cons (o := ⟨none, .store 32 (.tmp 10) (.tmp 34), 0, "top32.go:17", #[⟨14, .data⟩, ⟨6, .data⟩, ⟨13, .chain⟩, ⟨0, .phase⟩, ⟨1, .phase⟩, ⟨2, .phase⟩, ⟨3, .phase⟩, ⟨4, .phase⟩, ⟨5, .phase⟩, ⟨6, .phase⟩, ⟨7, .textOnly .lateStores⟩, ⟨8, .textOnly .lateStores⟩, ⟨9, .textOnly .lateStores⟩, ⟨10, .textOnly .lateStores⟩, ⟨11, .textOnly .lateStores⟩, ⟨12, .textOnly .lateStores⟩, ⟨13, .textOnly .lateStoresUnsure⟩, ⟨14, .phase⟩, ⟨15, .phase⟩], none⟩) rfl (fun K hK => ?_) AllReadyH.nil
     obtain ⟨W3, hQ⟩ := put_row (ty := 32) hB14 (x := bv P') (by simp [bv_length, dP'.out.1]) (iP'.out) (bv_one _)
     have hHeld2 := below_grown hHeld hQ.grown hHeld.size hL14
     rw [if_pos (by rfl)]
     refine wp_store_mid 32 _ _ rfl q14 0 (bv P' : List Value).toArray (by rfl) (by rfl) hQ.there hQ.info (by simpa using hQ.one) ?_
     generalize hWq : World.setCells _ _ _ _ = Wa
     obtain rfl : W3 = Wa := by rw [← hWq]; exact hQ.eq
     clear hWq
     refine hK.out _ _ hHeld2 (fun _ => ?_)
     clear hK K
     try simp only [Act.put]
     exact Ks3_14_15_R5 q14 q15 W3 (hHeld2) (hQ.blk) (hL14) (hB15.grown hQ.grown (fun e => by injection e with e; exact hN14_15 e.symm)) (hL15) (hN14_15)
    case ks3_14_15_R5 =>
     intro q14 q15 WZ hHeld hB14 hL14 hB15 hL15 hN14_15
     refine Go.rd (rs := [17]) ?_
     refine AllReadyH.cons (o := ⟨none, .store 32 (.tmp 11) (.tmp 41), 0, "top32.go:17", #[⟨15, .data⟩, ⟨13, .data⟩, ⟨16, .chain⟩, ⟨0, .phase⟩, ⟨1, .phase⟩, ⟨2, .phase⟩, ⟨3, .phase⟩, ⟨4, .phase⟩, ⟨5, .phase⟩, ⟨6, .phase⟩, ⟨7, .phase⟩, ⟨8, .phase⟩, ⟨9, .phase⟩, ⟨10, .phase⟩, ⟨11, .phase⟩, ⟨12, .phase⟩, ⟨13, .phase⟩, ⟨14, .phase⟩, ⟨15, .phase⟩, ⟨16, .phase⟩], none⟩) rfl (fun K hK => ?_) AllReadyH.nil
     obtain ⟨W3, hQ⟩ := put_row (ty := 32) hB15 (x := bv Q') (by simp [bv_length, dQ'.out.1]) (iQ'.out) (bv_one _)
     have hHeld2 := below_grown hHeld hQ.grown hHeld.size hL15
     rw [if_pos (by rfl)]
     refine wp_store_mid 32 _ _ rfl q15 0 (bv Q' : List Value).toArray (by rfl) (by rfl) hQ.there hQ.info (by simpa using hQ.one) ?_
     generalize hWq : World.setCells _ _ _ _ = Wa
     obtain rfl : W3 = Wa := by rw [← hWq]; exact hQ.eq
     clear hWq
     refine hK.out _ _ hHeld2 (fun _ => ?_)
     clear hK K
     try simp only [Act.put]
     refine wpAnyH_done (by kernel_rfl) ?_ _
     exact KfinR5 q14 q15 W3 (hHeld2) (hB14.grown hQ.grown (fun e => by injection e with e; exact hN14_15 e)) (hL14) (hQ.blk) (hL15) (hN14_15)
    case kfinR5 =>
     intro q14 q15 w5 hst b14 l14 b15 l15 n1415
     have hB14 := Lib.hid b14
     have hB15 := Lib.hid b15
     have hB7w := Lib.hid (hB7r.out.below hst hB7r.out.lt)
     have hB8w := Lib.hid (hB8r.out.below hst hB8r.out.lt)
     have hdx5 : Hid (w5.rangeAt b1 (o1 + k * 35 + 1) (bv DX)) := fun j v hv => (hst.cell (p := ⟨b1, _, none⟩) hl1).trans (hdx.out j v hv)
     have hdy5 : Hid (w5.rangeAt b2 (o2 + k * 35 + 1) (bv DY)) := fun j v hv => (hst.cell (p := ⟨b2, _, none⟩) hl2).trans (hdy.out j v hv)
     have hbt5 := Lib.hid (hbt.out.trans (hst.mono hbt.out.size))
     have lb1 : b1 < w5.heap.size := Nat.lt_of_lt_of_le hl1 hst.size
     have lb2 : b2 < w5.heap.size := Nat.lt_of_lt_of_le hl2 hst.size
     have z14 := Lib.hid b14.range
     have z15 := Lib.hid b15.range
     have z7 := Lib.hid hB7w.out.range
     have z8 := Lib.hid hB8w.out.range
     have y14 : q14 < w5.heap.size := b14.lt
     have y15 : q15 < w5.heap.size := b15.lt
     have y7 : g7 < w5.heap.size := hB7w.out.lt
     have y8 : g7 + 1 < w5.heap.size := hB8w.out.lt
     have d14 : q14 ≠ g7 ∧ q14 ≠ g7 + 1 ∧ q15 ≠ g7 ∧ q15 ≠ g7 + 1 := by omega
     clear b14 b15 hst hdx hdy r7 r8 hB7r hB8r hbt l14 l15
     go_upto_region 6 with fail
     by_cases c1 : P' = Q'
     · rw [decide_eq_true c1] at eqR
       by_cases c2 : P = Q
       · rw [decide_eq_true c2] at eqP
         by_cases c3 : DX = DY
         · rw [decide_eq_true c3] at eqX
           have hcl2 : Hid (Sto.collG P' Q' ((l1.map (·.dig)).drop (k + 1)) ((l2.map (·.dig)).drop (k + 1)) = R) := by
            have := hst'.out
            rw [if_neg (fun h => by
             rcases h.2 with h | h
             · exact h c2
             · exact h c3)] at this
            exact this.symm
           clear c1 c2 c3 hst'
           refine wp_region_held_drew (S := fun wz => Below w5.heap.size w5 wz) (by kernel_rfl) ((Below.refl _ w5).drew) (fun hHeld => ?_)
           refine tk (i := 0) (oi := ⟨some 42, .load 32 (.tmp 10), 32, "top32.go:18", #[], none⟩) rfl (yieldsIf_load_mid (by rfl) _ _ rfl q14 0 rfl (bv P') _ (fun wz h => fun j v hv => (h.cell (p := ⟨q14, _, none⟩) y14).trans (z14.out j v hv)) Tryz.underlying32 rfl (iP'.out)) hHeld ?_
           refine tk (i := 1) (oi := ⟨some 43, .load 32 (.tmp 11), 32, "top32.go:18", #[], none⟩) rfl (yieldsIf_load_mid (by rfl) _ _ rfl q15 0 rfl (bv Q') _ (fun wz h => fun j v hv => (h.cell (p := ⟨q15, _, none⟩) y15).trans (z15.out j v hv)) Tryz.underlying32 rfl (iQ'.out)) hHeld ?_
           refine tkq (i := 2) (oi := ⟨some 44, .binOp .eql 32 (.tmp 42) (.tmp 43) 32, 4, "top32.go:18", #[⟨0, .data⟩, ⟨1, .data⟩], none⟩) rfl hHeld ?_
           refine tkq (i := 3) (oi := ⟨some 45, .move (.tmp 44), 4, "top32.go:18", #[⟨2, .data⟩], none⟩) rfl hHeld ?_
           refine tk (i := 4) (oi := ⟨some 46, .load 32 (.tmp 7), 32, "top32.go:18", #[⟨3, .guard⟩], some (3, true)⟩) rfl (yieldsIf_load_mid (by rfl) _ _ rfl g7 0 rfl (bv P) _ (fun wz h => fun j v hv => (h.cell (p := ⟨g7, _, none⟩) y7).trans (z7.out j v hv)) Tryz.underlying32 rfl (iP.out)) hHeld ?_
           refine tk (i := 5) (oi := ⟨some 47, .load 32 (.tmp 8), 32, "top32.go:18", #[⟨3, .guard⟩], some (3, true)⟩) rfl (yieldsIf_load_mid (by rfl) _ _ rfl (g7 + 1) 0 rfl (bv Q) _ (fun wz h => fun j v hv => (h.cell (p := ⟨(g7 + 1), _, none⟩) y8).trans (z8.out j v hv)) Tryz.underlying32 rfl (iQ.out)) hHeld ?_
           refine tkq (i := 6) (oi := ⟨some 48, .binOp .neq 32 (.tmp 46) (.tmp 47) 32, 4, "top32.go:18", #[⟨4, .data⟩, ⟨5, .data⟩, ⟨3, .guard⟩], some (3, true)⟩) rfl hHeld ?_
           refine tkq (i := 7) (oi := ⟨some 49, .move (.tmp 48), 4, "top32.go:18", #[⟨6, .data⟩, ⟨3, .chain⟩, ⟨3, .guard⟩], some (3, true)⟩) rfl hHeld ?_
           refine tkq (i := 8) (oi := ⟨some 50, .move (.tmp 1), 30, "top32.go:18", #[⟨7, .guard⟩], some (7, false)⟩) rfl hHeld ?_
           refine tkq (i := 9) (oi := ⟨some 51, .move (.tmp 9), 3, "top32.go:18", #[⟨7, .guard⟩], some (7, false)⟩) rfl hHeld ?_
           refine tkq (i := 10) (oi := ⟨some 52, .indexAddr 30 (.tmp 50) (.tmp 51), 0, "top32.go:18", #[⟨8, .data⟩, ⟨9, .data⟩, ⟨7, .guard⟩], some (7, false)⟩) rfl hHeld ?_
           refine tkq (i := 11) (oi := ⟨some 53, .fieldAddr 78 (.tmp 52) 1, 0, "top32.go:18", #[⟨10, .data⟩, ⟨7, .guard⟩], some (7, false)⟩) rfl hHeld ?_
           refine tk (i := 12) (oi := ⟨some 54, .load 32 (.tmp 53), 32, "top32.go:18", #[⟨11, .data⟩, ⟨7, .guard⟩], some (7, false)⟩) rfl (yieldsIf_load_mid (by rfl) _ _ rfl b1 (o1 + k * 35 + 1) rfl (bv DX) _ (fun wz h => fun j v hv => (h.cell (p := ⟨b1, _, none⟩) lb1).trans (hdx5.out j v hv)) Tryz.underlying32 rfl (iX.out)) hHeld ?_
           refine tkq (i := 13) (oi := ⟨some 55, .move (.tmp 2), 30, "top32.go:18", #[⟨7, .guard⟩], some (7, false)⟩) rfl hHeld ?_
           refine tkq (i := 14) (oi := ⟨some 56, .move (.tmp 9), 3, "top32.go:18", #[⟨7, .guard⟩], some (7, false)⟩) rfl hHeld ?_
           refine tkq (i := 15) (oi := ⟨some 57, .indexAddr 30 (.tmp 55) (.tmp 56), 0, "top32.go:18", #[⟨13, .data⟩, ⟨14, .data⟩, ⟨7, .guard⟩], some (7, false)⟩) rfl hHeld ?_
           refine tkq (i := 16) (oi := ⟨some 58, .fieldAddr 78 (.tmp 57) 1, 0, "top32.go:18", #[⟨15, .data⟩, ⟨7, .guard⟩], some (7, false)⟩) rfl hHeld ?_
           refine tk (i := 17) (oi := ⟨some 59, .load 32 (.tmp 58), 32, "top32.go:18", #[⟨16, .data⟩, ⟨7, .guard⟩], some (7, false)⟩) rfl (yieldsIf_load_mid (by rfl) _ _ rfl b2 (o2 + k * 35 + 1) rfl (bv DY) _ (fun wz h => fun j v hv => (h.cell (p := ⟨b2, _, none⟩) lb2).trans (hdy5.out j v hv)) Tryz.underlying32 rfl (iY.out)) hHeld ?_
           refine tkq (i := 18) (oi := ⟨some 60, .binOp .neq 32 (.tmp 54) (.tmp 59) 32, 4, "top32.go:18", #[⟨12, .data⟩, ⟨17, .data⟩, ⟨7, .guard⟩], some (7, false)⟩) rfl hHeld ?_
           refine tkq (i := 19) (oi := ⟨some 61, .pick (.tmp 49) (.const (.bool true)) (.tmp 60), 4, "top32.go:18", #[⟨7, .data⟩, ⟨18, .data⟩, ⟨3, .guard⟩], some (3, true)⟩) rfl hHeld ?_
           refine tkq (i := 20) (oi := ⟨some 62, .pick (.tmp 45) (.tmp 61) (.const (.bool false)), 4, "top32.go:18", #[⟨3, .data⟩, ⟨19, .data⟩], none⟩) rfl hHeld ?_
           refine wpAnyH_done (by kernel_rfl) ?_ _
           generalize hw6 : w5.drew = w6 at *
           have hC14 := hB14.out.below hHeld hB14.out.lt
           have hC15 := hB15.out.below hHeld hB15.out.lt
           have hC7 := hB7w.out.below hHeld hB7w.out.lt
           have hC8 := hB8w.out.below hHeld hB8w.out.lt
           have hbt6 := Lib.hid (hbt5.out.trans (hHeld.mono hbt5.out.size))
           clear hHeld hB14 hB15 hB7w hB8w hbt5 z14 z15 z7 z8 hdx5 hdy5
           go_upto_region 8 with fail
           refine wp_region_held_drew (S := fun wz => Blk wz q14 32 (bv P') ∧ Blk wz q15 32 (bv Q')) (by kernel_rfl) (⟨hC14.below (Below.refl _ w6).drew hC14.lt, hC15.below (Below.refl _ w6).drew hC15.lt⟩) (fun hHeld => ?_)
           refine tk (i := 0) (oi := ⟨some 63, .load 32 (.tmp 10), 32, "top32.go:21", #[], none⟩) rfl (yieldsIf_load_mid (by rfl) _ _ rfl q14 0 rfl (bv P') _ (fun wz h => h.1.range) Tryz.underlying32 rfl (iP'.out)) hHeld ?_
           refine tk (i := 1) (oi := ⟨some 64, .load 32 (.tmp 11), 32, "top32.go:21", #[⟨2, .gcOnly .lateStores⟩], none⟩) rfl (yieldsIf_load_mid (by rfl) _ _ rfl q15 0 rfl (bv Q') _ (fun wz h => h.2.range) Tryz.underlying32 rfl (iQ'.out)) hHeld ?_
           have hC7d := hC7.below (Below.refl _ w6).drew hC7.lt
           have hC8d := hC8.below (Below.refl _ w6).drew hC8.lt
           have hbd := hbt6.out.drew
           generalize w6.drew = W0 at *
           refine Go.rd (rs := [2]) ?_
           refine Go.rc (o := ⟨none, .store 32 (.tmp 7) (.tmp 63), 0, "top32.go:21", #[⟨0, .data⟩, ⟨0, .phase⟩, ⟨1, .textOnly .lateStores⟩], none⟩) rfl (fun K hK => ?_) Go.rn
           obtain ⟨W1, hQ2⟩ := put_row (ty := 32) hC7d (x := bv P') (by simp [bv_length, dP'.out.1, hP.out.1]) iP'.out (bv_one _)
           refine wp_store_mid 32 _ _ rfl g7 0 (bv P').toArray (by rfl) (by rfl) hQ2.there hQ2.info (by simpa using hQ2.one) ?_
           generalize hWq : World.setCells _ _ _ _ = Wa
           obtain rfl : W1 = Wa := by rw [← hWq]; exact hQ2.eq
           clear hWq
           have hS2 : Blk W1 q14 32 (bv P') ∧ Blk W1 q15 32 (bv Q') := ⟨hHeld.1.grown hQ2.grown (fun e => by injection e with e; omega), hHeld.2.grown hQ2.grown (fun e => by injection e with e; omega)⟩
           have hC8e := hC8d.grown hQ2.grown (fun e => by injection e with e; omega)
           refine hK.out _ _ hS2 (fun hHeld => ?_)
           clear hK K
           try simp only [Act.put]
           refine Go.rd (rs := [3]) ?_
           refine Go.rc (o := ⟨none, .store 32 (.tmp 8) (.tmp 64), 0, "top32.go:21", #[⟨1, .data⟩, ⟨2, .chain⟩, ⟨0, .phase⟩, ⟨1, .phase⟩, ⟨2, .phase⟩], none⟩) rfl (fun K hK => ?_) Go.rn
           obtain ⟨W2, hQ3⟩ := put_row (ty := 32) hC8e (x := bv Q') (by simp [bv_length, dQ'.out.1, hQ.out.1]) iQ'.out (bv_one _)
           refine wp_store_mid 32 _ _ rfl (g7 + 1) 0 (bv Q').toArray (by rfl) (by rfl) hQ3.there hQ3.info (by simpa using hQ3.one) ?_
           generalize hWq : World.setCells _ _ _ _ = Wa
           obtain rfl : W2 = Wa := by rw [← hWq]; exact hQ3.eq
           clear hWq
           have hS3 : Blk W2 q14 32 (bv P') ∧ Blk W2 q15 32 (bv Q') := ⟨hHeld.1.grown hQ3.grown (fun e => by injection e with e; omega), hHeld.2.grown hQ3.grown (fun e => by injection e with e; omega)⟩
           refine hK.out _ _ hS3 (fun hHeld => ?_)
           clear hK K
           try simp only [Act.put]
           refine wpAnyH_done (by kernel_rfl) ?_ _
           have hb9 := Lib.hid (below_grown (below_grown hbd hQ2.grown hbd.size (by have := hw2.out; omega)) hQ3.grown (Nat.le_trans hbd.size hQ2.grown.size) (by have := hw2.out; omega))
           have hN7 := Lib.hid (hQ2.blk.grown hQ3.grown (fun e => by injection e with e; omega))
           have hN8 := Lib.hid hQ3.blk
           go_wp2_with fail
           go_roundw
           case rel => exact ⟨k + 1, P', Q', by omega, by go_num, hN7, hN8, dP', dQ', hcl2, hb9⟩
           case measure => simp [intOf]; omega
         · rw [decide_eq_false c3] at eqX
           have hRt : Hid (R = true) := by
            have := hst'.out
            rw [if_pos ⟨c1, .inr c3⟩] at this
            exact this
           clear c1 c2 c3 hst'
           refine wp_region_held_drew (S := fun wz => Below w5.heap.size w5 wz) (by kernel_rfl) ((Below.refl _ w5).drew) (fun hHeld => ?_)
           refine tk (i := 0) (oi := ⟨some 42, .load 32 (.tmp 10), 32, "top32.go:18", #[], none⟩) rfl (yieldsIf_load_mid (by rfl) _ _ rfl q14 0 rfl (bv P') _ (fun wz h => fun j v hv => (h.cell (p := ⟨q14, _, none⟩) y14).trans (z14.out j v hv)) Tryz.underlying32 rfl (iP'.out)) hHeld ?_
           refine tk (i := 1) (oi := ⟨some 43, .load 32 (.tmp 11), 32, "top32.go:18", #[], none⟩) rfl (yieldsIf_load_mid (by rfl) _ _ rfl q15 0 rfl (bv Q') _ (fun wz h => fun j v hv => (h.cell (p := ⟨q15, _, none⟩) y15).trans (z15.out j v hv)) Tryz.underlying32 rfl (iQ'.out)) hHeld ?_
           refine tkq (i := 2) (oi := ⟨some 44, .binOp .eql 32 (.tmp 42) (.tmp 43) 32, 4, "top32.go:18", #[⟨0, .data⟩, ⟨1, .data⟩], none⟩) rfl hHeld ?_
           refine tkq (i := 3) (oi := ⟨some 45, .move (.tmp 44), 4, "top32.go:18", #[⟨2, .data⟩], none⟩) rfl hHeld ?_
           refine tk (i := 4) (oi := ⟨some 46, .load 32 (.tmp 7), 32, "top32.go:18", #[⟨3, .guard⟩], some (3, true)⟩) rfl (yieldsIf_load_mid (by rfl) _ _ rfl g7 0 rfl (bv P) _ (fun wz h => fun j v hv => (h.cell (p := ⟨g7, _, none⟩) y7).trans (z7.out j v hv)) Tryz.underlying32 rfl (iP.out)) hHeld ?_
           refine tk (i := 5) (oi := ⟨some 47, .load 32 (.tmp 8), 32, "top32.go:18", #[⟨3, .guard⟩], some (3, true)⟩) rfl (yieldsIf_load_mid (by rfl) _ _ rfl (g7 + 1) 0 rfl (bv Q) _ (fun wz h => fun j v hv => (h.cell (p := ⟨(g7 + 1), _, none⟩) y8).trans (z8.out j v hv)) Tryz.underlying32 rfl (iQ.out)) hHeld ?_
           refine tkq (i := 6) (oi := ⟨some 48, .binOp .neq 32 (.tmp 46) (.tmp 47) 32, 4, "top32.go:18", #[⟨4, .data⟩, ⟨5, .data⟩, ⟨3, .guard⟩], some (3, true)⟩) rfl hHeld ?_
           refine tkq (i := 7) (oi := ⟨some 49, .move (.tmp 48), 4, "top32.go:18", #[⟨6, .data⟩, ⟨3, .chain⟩, ⟨3, .guard⟩], some (3, true)⟩) rfl hHeld ?_
           refine tkq (i := 8) (oi := ⟨some 50, .move (.tmp 1), 30, "top32.go:18", #[⟨7, .guard⟩], some (7, false)⟩) rfl hHeld ?_
           refine tkq (i := 9) (oi := ⟨some 51, .move (.tmp 9), 3, "top32.go:18", #[⟨7, .guard⟩], some (7, false)⟩) rfl hHeld ?_
           refine tkq (i := 10) (oi := ⟨some 52, .indexAddr 30 (.tmp 50) (.tmp 51), 0, "top32.go:18", #[⟨8, .data⟩, ⟨9, .data⟩, ⟨7, .guard⟩], some (7, false)⟩) rfl hHeld ?_
           refine tkq (i := 11) (oi := ⟨some 53, .fieldAddr 78 (.tmp 52) 1, 0, "top32.go:18", #[⟨10, .data⟩, ⟨7, .guard⟩], some (7, false)⟩) rfl hHeld ?_
           refine tk (i := 12) (oi := ⟨some 54, .load 32 (.tmp 53), 32, "top32.go:18", #[⟨11, .data⟩, ⟨7, .guard⟩], some (7, false)⟩) rfl (yieldsIf_load_mid (by rfl) _ _ rfl b1 (o1 + k * 35 + 1) rfl (bv DX) _ (fun wz h => fun j v hv => (h.cell (p := ⟨b1, _, none⟩) lb1).trans (hdx5.out j v hv)) Tryz.underlying32 rfl (iX.out)) hHeld ?_
           refine tkq (i := 13) (oi := ⟨some 55, .move (.tmp 2), 30, "top32.go:18", #[⟨7, .guard⟩], some (7, false)⟩) rfl hHeld ?_
           refine tkq (i := 14) (oi := ⟨some 56, .move (.tmp 9), 3, "top32.go:18", #[⟨7, .guard⟩], some (7, false)⟩) rfl hHeld ?_
           refine tkq (i := 15) (oi := ⟨some 57, .indexAddr 30 (.tmp 55) (.tmp 56), 0, "top32.go:18", #[⟨13, .data⟩, ⟨14, .data⟩, ⟨7, .guard⟩], some (7, false)⟩) rfl hHeld ?_
           refine tkq (i := 16) (oi := ⟨some 58, .fieldAddr 78 (.tmp 57) 1, 0, "top32.go:18", #[⟨15, .data⟩, ⟨7, .guard⟩], some (7, false)⟩) rfl hHeld ?_
           refine tk (i := 17) (oi := ⟨some 59, .load 32 (.tmp 58), 32, "top32.go:18", #[⟨16, .data⟩, ⟨7, .guard⟩], some (7, false)⟩) rfl (yieldsIf_load_mid (by rfl) _ _ rfl b2 (o2 + k * 35 + 1) rfl (bv DY) _ (fun wz h => fun j v hv => (h.cell (p := ⟨b2, _, none⟩) lb2).trans (hdy5.out j v hv)) Tryz.underlying32 rfl (iY.out)) hHeld ?_
           refine tkq (i := 18) (oi := ⟨some 60, .binOp .neq 32 (.tmp 54) (.tmp 59) 32, 4, "top32.go:18", #[⟨12, .data⟩, ⟨17, .data⟩, ⟨7, .guard⟩], some (7, false)⟩) rfl hHeld ?_
           refine tkq (i := 19) (oi := ⟨some 61, .pick (.tmp 49) (.const (.bool true)) (.tmp 60), 4, "top32.go:18", #[⟨7, .data⟩, ⟨18, .data⟩, ⟨3, .guard⟩], some (3, true)⟩) rfl hHeld ?_
           refine tkq (i := 20) (oi := ⟨some 62, .pick (.tmp 45) (.tmp 61) (.const (.bool false)), 4, "top32.go:18", #[⟨3, .data⟩, ⟨19, .data⟩], none⟩) rfl hHeld ?_
           refine wpAnyH_done (by kernel_rfl) ?_ _
           have hf := Lib.hid (hfin.out true _ hRt.out (hbt5.out.trans (hHeld.mono hbt5.out.size)))
           go_wp2_with fail
           exact hf.out
       · rw [decide_eq_false c2] at eqP
         have hRt : Hid (R = true) := by
          have := hst'.out
          rw [if_pos ⟨c1, .inl c2⟩] at this
          exact this
         clear c1 c2 hst'
         refine wp_region_held_drew (S := fun wz => Below w5.heap.size w5 wz) (by kernel_rfl) ((Below.refl _ w5).drew) (fun hHeld => ?_)
         refine tk (i := 0) (oi := ⟨some 42, .load 32 (.tmp 10), 32, "top32.go:18", #[], none⟩) rfl (yieldsIf_load_mid (by rfl) _ _ rfl q14 0 rfl (bv P') _ (fun wz h => fun j v hv => (h.cell (p := ⟨q14, _, none⟩) y14).trans (z14.out j v hv)) Tryz.underlying32 rfl (iP'.out)) hHeld ?_
         refine tk (i := 1) (oi := ⟨some 43, .load 32 (.tmp 11), 32, "top32.go:18", #[], none⟩) rfl (yieldsIf_load_mid (by rfl) _ _ rfl q15 0 rfl (bv Q') _ (fun wz h => fun j v hv => (h.cell (p := ⟨q15, _, none⟩) y15).trans (z15.out j v hv)) Tryz.underlying32 rfl (iQ'.out)) hHeld ?_
         refine tkq (i := 2) (oi := ⟨some 44, .binOp .eql 32 (.tmp 42) (.tmp 43) 32, 4, "top32.go:18", #[⟨0, .data⟩, ⟨1, .data⟩], none⟩) rfl hHeld ?_
         refine tkq (i := 3) (oi := ⟨some 45, .move (.tmp 44), 4, "top32.go:18", #[⟨2, .data⟩], none⟩) rfl hHeld ?_
         refine tk (i := 4) (oi := ⟨some 46, .load 32 (.tmp 7), 32, "top32.go:18", #[⟨3, .guard⟩], some (3, true)⟩) rfl (yieldsIf_load_mid (by rfl) _ _ rfl g7 0 rfl (bv P) _ (fun wz h => fun j v hv => (h.cell (p := ⟨g7, _, none⟩) y7).trans (z7.out j v hv)) Tryz.underlying32 rfl (iP.out)) hHeld ?_
         refine tk (i := 5) (oi := ⟨some 47, .load 32 (.tmp 8), 32, "top32.go:18", #[⟨3, .guard⟩], some (3, true)⟩) rfl (yieldsIf_load_mid (by rfl) _ _ rfl (g7 + 1) 0 rfl (bv Q) _ (fun wz h => fun j v hv => (h.cell (p := ⟨(g7 + 1), _, none⟩) y8).trans (z8.out j v hv)) Tryz.underlying32 rfl (iQ.out)) hHeld ?_
         refine tkq (i := 6) (oi := ⟨some 48, .binOp .neq 32 (.tmp 46) (.tmp 47) 32, 4, "top32.go:18", #[⟨4, .data⟩, ⟨5, .data⟩, ⟨3, .guard⟩], some (3, true)⟩) rfl hHeld ?_
         refine tkq (i := 7) (oi := ⟨some 49, .move (.tmp 48), 4, "top32.go:18", #[⟨6, .data⟩, ⟨3, .chain⟩, ⟨3, .guard⟩], some (3, true)⟩) rfl hHeld ?_
         refine tk (i := 8) (oi := ⟨some 50, .move (.tmp 1), 30, "top32.go:18", #[⟨7, .guard⟩], some (7, false)⟩) (v := undef) rfl (Or.inr ⟨by rfl, rfl⟩) hHeld ?_
         refine tk (i := 9) (oi := ⟨some 51, .move (.tmp 9), 3, "top32.go:18", #[⟨7, .guard⟩], some (7, false)⟩) (v := undef) rfl (Or.inr ⟨by rfl, rfl⟩) hHeld ?_
         refine tk (i := 10) (oi := ⟨some 52, .indexAddr 30 (.tmp 50) (.tmp 51), 0, "top32.go:18", #[⟨8, .data⟩, ⟨9, .data⟩, ⟨7, .guard⟩], some (7, false)⟩) (v := undef) rfl (Or.inr ⟨by rfl, rfl⟩) hHeld ?_
         refine tk (i := 11) (oi := ⟨some 53, .fieldAddr 78 (.tmp 52) 1, 0, "top32.go:18", #[⟨10, .data⟩, ⟨7, .guard⟩], some (7, false)⟩) (v := undef) rfl (Or.inr ⟨by rfl, rfl⟩) hHeld ?_
         refine tk (i := 12) (oi := ⟨some 54, .load 32 (.tmp 53), 32, "top32.go:18", #[⟨11, .data⟩, ⟨7, .guard⟩], some (7, false)⟩) (v := undef) rfl (Or.inr ⟨by rfl, rfl⟩) hHeld ?_
         refine tk (i := 13) (oi := ⟨some 55, .move (.tmp 2), 30, "top32.go:18", #[⟨7, .guard⟩], some (7, false)⟩) (v := undef) rfl (Or.inr ⟨by rfl, rfl⟩) hHeld ?_
         refine tk (i := 14) (oi := ⟨some 56, .move (.tmp 9), 3, "top32.go:18", #[⟨7, .guard⟩], some (7, false)⟩) (v := undef) rfl (Or.inr ⟨by rfl, rfl⟩) hHeld ?_
         refine tk (i := 15) (oi := ⟨some 57, .indexAddr 30 (.tmp 55) (.tmp 56), 0, "top32.go:18", #[⟨13, .data⟩, ⟨14, .data⟩, ⟨7, .guard⟩], some (7, false)⟩) (v := undef) rfl (Or.inr ⟨by rfl, rfl⟩) hHeld ?_
         refine tk (i := 16) (oi := ⟨some 58, .fieldAddr 78 (.tmp 57) 1, 0, "top32.go:18", #[⟨15, .data⟩, ⟨7, .guard⟩], some (7, false)⟩) (v := undef) rfl (Or.inr ⟨by rfl, rfl⟩) hHeld ?_
         refine tk (i := 17) (oi := ⟨some 59, .load 32 (.tmp 58), 32, "top32.go:18", #[⟨16, .data⟩, ⟨7, .guard⟩], some (7, false)⟩) (v := undef) rfl (Or.inr ⟨by rfl, rfl⟩) hHeld ?_
         refine tk (i := 18) (oi := ⟨some 60, .binOp .neq 32 (.tmp 54) (.tmp 59) 32, 4, "top32.go:18", #[⟨12, .data⟩, ⟨17, .data⟩, ⟨7, .guard⟩], some (7, false)⟩) (v := undef) rfl (Or.inr ⟨by rfl, rfl⟩) hHeld ?_
         refine tkq (i := 19) (oi := ⟨some 61, .pick (.tmp 49) (.const (.bool true)) (.tmp 60), 4, "top32.go:18", #[⟨7, .data⟩, ⟨18, .data⟩, ⟨3, .guard⟩], some (3, true)⟩) rfl hHeld ?_
         refine tkq (i := 20) (oi := ⟨some 62, .pick (.tmp 45) (.tmp 61) (.const (.bool false)), 4, "top32.go:18", #[⟨3, .data⟩, ⟨19, .data⟩], none⟩) rfl hHeld ?_
         refine wpAnyH_done (by kernel_rfl) ?_ _
         have hf := Lib.hid (hfin.out true _ hRt.out (hbt5.out.trans (hHeld.mono hbt5.out.size)))
         go_wp2_with fail
         exact hf.out
     · rw [decide_eq_false c1] at eqR
       have hcl2 : Hid (Sto.collG P' Q' ((l1.map (·.dig)).drop (k + 1)) ((l2.map (·.dig)).drop (k + 1)) = R) := by
        have := hst'.out
        rw [if_neg (fun h => c1 h.1)] at this
        exact this.symm
       clear c1 hst'
       refine wp_region_held_drew (S := fun wz => Below w5.heap.size w5 wz) (by kernel_rfl) ((Below.refl _ w5).drew) (fun hHeld => ?_)
       refine tk (i := 0) (oi := ⟨some 42, .load 32 (.tmp 10), 32, "top32.go:18", #[], none⟩) rfl (yieldsIf_load_mid (by rfl) _ _ rfl q14 0 rfl (bv P') _ (fun wz h => fun j v hv => (h.cell (p := ⟨q14, _, none⟩) y14).trans (z14.out j v hv)) Tryz.underlying32 rfl (iP'.out)) hHeld ?_
       refine tk (i := 1) (oi := ⟨some 43, .load 32 (.tmp 11), 32, "top32.go:18", #[], none⟩) rfl (yieldsIf_load_mid (by rfl) _ _ rfl q15 0 rfl (bv Q') _ (fun wz h => fun j v hv => (h.cell (p := ⟨q15, _, none⟩) y15).trans (z15.out j v hv)) Tryz.underlying32 rfl (iQ'.out)) hHeld ?_
       refine tkq (i := 2) (oi := ⟨some 44, .binOp .eql 32 (.tmp 42) (.tmp 43) 32, 4, "top32.go:18", #[⟨0, .data⟩, ⟨1, .data⟩], none⟩) rfl hHeld ?_
       refine tkq (i := 3) (oi := ⟨some 45, .move (.tmp 44), 4, "top32.go:18", #[⟨2, .data⟩], none⟩) rfl hHeld ?_
       refine tk (i := 4) (oi := ⟨some 46, .load 32 (.tmp 7), 32, "top32.go:18", #[⟨3, .guard⟩], some (3, true)⟩) (v := undef) rfl (Or.inr ⟨by rfl, rfl⟩) hHeld ?_
       refine tk (i := 5) (oi := ⟨some 47, .load 32 (.tmp 8), 32, "top32.go:18", #[⟨3, .guard⟩], some (3, true)⟩) (v := undef) rfl (Or.inr ⟨by rfl, rfl⟩) hHeld ?_
       refine tk (i := 6) (oi := ⟨some 48, .binOp .neq 32 (.tmp 46) (.tmp 47) 32, 4, "top32.go:18", #[⟨4, .data⟩, ⟨5, .data⟩, ⟨3, .guard⟩], some (3, true)⟩) (v := undef) rfl (Or.inr ⟨by rfl, rfl⟩) hHeld ?_
       refine tk (i := 7) (oi := ⟨some 49, .move (.tmp 48), 4, "top32.go:18", #[⟨6, .data⟩, ⟨3, .chain⟩, ⟨3, .guard⟩], some (3, true)⟩) (v := undef) rfl (Or.inr ⟨by rfl, rfl⟩) hHeld ?_
       refine tk (i := 8) (oi := ⟨some 50, .move (.tmp 1), 30, "top32.go:18", #[⟨7, .guard⟩], some (7, false)⟩) (v := undef) rfl (Or.inr ⟨by rfl, rfl⟩) hHeld ?_
       refine tk (i := 9) (oi := ⟨some 51, .move (.tmp 9), 3, "top32.go:18", #[⟨7, .guard⟩], some (7, false)⟩) (v := undef) rfl (Or.inr ⟨by rfl, rfl⟩) hHeld ?_
       refine tk (i := 10) (oi := ⟨some 52, .indexAddr 30 (.tmp 50) (.tmp 51), 0, "top32.go:18", #[⟨8, .data⟩, ⟨9, .data⟩, ⟨7, .guard⟩], some (7, false)⟩) (v := undef) rfl (Or.inr ⟨by rfl, rfl⟩) hHeld ?_
       refine tk (i := 11) (oi := ⟨some 53, .fieldAddr 78 (.tmp 52) 1, 0, "top32.go:18", #[⟨10, .data⟩, ⟨7, .guard⟩], some (7, false)⟩) (v := undef) rfl (Or.inr ⟨by rfl, rfl⟩) hHeld ?_
       refine tk (i := 12) (oi := ⟨some 54, .load 32 (.tmp 53), 32, "top32.go:18", #[⟨11, .data⟩, ⟨7, .guard⟩], some (7, false)⟩) (v := undef) rfl (Or.inr ⟨by rfl, rfl⟩) hHeld ?_
       refine tk (i := 13) (oi := ⟨some 55, .move (.tmp 2), 30, "top32.go:18", #[⟨7, .guard⟩], some (7, false)⟩) (v := undef) rfl (Or.inr ⟨by rfl, rfl⟩) hHeld ?_
       refine tk (i := 14) (oi := ⟨some 56, .move (.tmp 9), 3, "top32.go:18", #[⟨7, .guard⟩], some (7, false)⟩) (v := undef) rfl (Or.inr ⟨by rfl, rfl⟩) hHeld ?_
       refine tk (i := 15) (oi := ⟨some 57, .indexAddr 30 (.tmp 55) (.tmp 56), 0, "top32.go:18", #[⟨13, .data⟩, ⟨14, .data⟩, ⟨7, .guard⟩], some (7, false)⟩) (v := undef) rfl (Or.inr ⟨by rfl, rfl⟩) hHeld ?_
       refine tk (i := 16) (oi := ⟨some 58, .fieldAddr 78 (.tmp 57) 1, 0, "top32.go:18", #[⟨15, .data⟩, ⟨7, .guard⟩], some (7, false)⟩) (v := undef) rfl (Or.inr ⟨by rfl, rfl⟩) hHeld ?_
       refine tk (i := 17) (oi := ⟨some 59, .load 32 (.tmp 58), 32, "top32.go:18", #[⟨16, .data⟩, ⟨7, .guard⟩], some (7, false)⟩) (v := undef) rfl (Or.inr ⟨by rfl, rfl⟩) hHeld ?_
       refine tk (i := 18) (oi := ⟨some 60, .binOp .neq 32 (.tmp 54) (.tmp 59) 32, 4, "top32.go:18", #[⟨12, .data⟩, ⟨17, .data⟩, ⟨7, .guard⟩], some (7, false)⟩) (v := undef) rfl (Or.inr ⟨by rfl, rfl⟩) hHeld ?_
       refine tk (i := 19) (oi := ⟨some 61, .pick (.tmp 49) (.const (.bool true)) (.tmp 60), 4, "top32.go:18", #[⟨7, .data⟩, ⟨18, .data⟩, ⟨3, .guard⟩], some (3, true)⟩) (v := undef) rfl (Or.inr ⟨by rfl, rfl⟩) hHeld ?_
       refine tkq (i := 20) (oi := ⟨some 62, .pick (.tmp 45) (.tmp 61) (.const (.bool false)), 4, "top32.go:18", #[⟨3, .data⟩, ⟨19, .data⟩], none⟩) rfl hHeld ?_
       refine wpAnyH_done (by kernel_rfl) ?_ _
       generalize hw6 : w5.drew = w6 at *
       have hC14 := hB14.out.below hHeld hB14.out.lt
       have hC15 := hB15.out.below hHeld hB15.out.lt
       have hC7 := hB7w.out.below hHeld hB7w.out.lt
       have hC8 := hB8w.out.below hHeld hB8w.out.lt
       have hbt6 := Lib.hid (hbt5.out.trans (hHeld.mono hbt5.out.size))
       clear hHeld hB14 hB15 hB7w hB8w hbt5 z14 z15 z7 z8 hdx5 hdy5
       go_upto_region 8 with fail
       refine wp_region_held_drew (S := fun wz => Blk wz q14 32 (bv P') ∧ Blk wz q15 32 (bv Q')) (by kernel_rfl) (⟨hC14.below (Below.refl _ w6).drew hC14.lt, hC15.below (Below.refl _ w6).drew hC15.lt⟩) (fun hHeld => ?_)
       refine tk (i := 0) (oi := ⟨some 63, .load 32 (.tmp 10), 32, "top32.go:21", #[], none⟩) rfl (yieldsIf_load_mid (by rfl) _ _ rfl q14 0 rfl (bv P') _ (fun wz h => h.1.range) Tryz.underlying32 rfl (iP'.out)) hHeld ?_
       refine tk (i := 1) (oi := ⟨some 64, .load 32 (.tmp 11), 32, "top32.go:21", #[⟨2, .gcOnly .lateStores⟩], none⟩) rfl (yieldsIf_load_mid (by rfl) _ _ rfl q15 0 rfl (bv Q') _ (fun wz h => h.2.range) Tryz.underlying32 rfl (iQ'.out)) hHeld ?_
       have hC7d := hC7.below (Below.refl _ w6).drew hC7.lt
       have hC8d := hC8.below (Below.refl _ w6).drew hC8.lt
       have hbd := hbt6.out.drew
       generalize w6.drew = W0 at *
       refine Go.rd (rs := [2]) ?_
       refine Go.rc (o := ⟨none, .store 32 (.tmp 7) (.tmp 63), 0, "top32.go:21", #[⟨0, .data⟩, ⟨0, .phase⟩, ⟨1, .textOnly .lateStores⟩], none⟩) rfl (fun K hK => ?_) Go.rn
       obtain ⟨W1, hQ2⟩ := put_row (ty := 32) hC7d (x := bv P') (by simp [bv_length, dP'.out.1, hP.out.1]) iP'.out (bv_one _)
       refine wp_store_mid 32 _ _ rfl g7 0 (bv P').toArray (by rfl) (by rfl) hQ2.there hQ2.info (by simpa using hQ2.one) ?_
       generalize hWq : World.setCells _ _ _ _ = Wa
       obtain rfl : W1 = Wa := by rw [← hWq]; exact hQ2.eq
       clear hWq
       have hS2 : Blk W1 q14 32 (bv P') ∧ Blk W1 q15 32 (bv Q') := ⟨hHeld.1.grown hQ2.grown (fun e => by injection e with e; omega), hHeld.2.grown hQ2.grown (fun e => by injection e with e; omega)⟩
       have hC8e := hC8d.grown hQ2.grown (fun e => by injection e with e; omega)
       refine hK.out _ _ hS2 (fun hHeld => ?_)
       clear hK K
       try simp only [Act.put]
       refine Go.rd (rs := [3]) ?_
       refine Go.rc (o := ⟨none, .store 32 (.tmp 8) (.tmp 64), 0, "top32.go:21", #[⟨1, .data⟩, ⟨2, .chain⟩, ⟨0, .phase⟩, ⟨1, .phase⟩, ⟨2, .phase⟩], none⟩) rfl (fun K hK => ?_) Go.rn
       obtain ⟨W2, hQ3⟩ := put_row (ty := 32) hC8e (x := bv Q') (by simp [bv_length, dQ'.out.1, hQ.out.1]) iQ'.out (bv_one _)
       refine wp_store_mid 32 _ _ rfl (g7 + 1) 0 (bv Q').toArray (by rfl) (by rfl) hQ3.there hQ3.info (by simpa using hQ3.one) ?_
       generalize hWq : World.setCells _ _ _ _ = Wa
       obtain rfl : W2 = Wa := by rw [← hWq]; exact hQ3.eq
       clear hWq
       have hS3 : Blk W2 q14 32 (bv P') ∧ Blk W2 q15 32 (bv Q') := ⟨hHeld.1.grown hQ3.grown (fun e => by injection e with e; omega), hHeld.2.grown hQ3.grown (fun e => by injection e with e; omega)⟩
       refine hK.out _ _ hS3 (fun hHeld => ?_)
       clear hK K
       try simp only [Act.put]
       refine wpAnyH_done (by kernel_rfl) ?_ _
       have hb9 := Lib.hid (below_grown (below_grown hbd hQ2.grown hbd.size (by have := hw2.out; omega)) hQ3.grown (Nat.le_trans hbd.size hQ2.grown.size) (by have := hw2.out; omega))
       have hN7 := Lib.hid (hQ2.blk.grown hQ3.grown (fun e => by injection e with e; omega))
       have hN8 := Lib.hid hQ3.blk
       go_wp2_with fail
       go_roundw
       case rel => exact ⟨k + 1, P', Q', by omega, by go_num, hN7, hN8, dP', dQ', hcl2, hb9⟩
       case measure => simp [intOf]; omega
end Go.Proofs.YtiionehcmoginaaGreatDoor
namespace Go.Proofs.YtiionehcmoginaaGreatDoor
open Go.RowKit Go.Mem Go.Shelf
open Go.Sto (Ent St Rul forkE BdL Tex frk)
open Go.Vw (Hd Fk Sg newV zeroV zeroF accV cmpV)
theorem vmN1 {st fo pub : Int} (h1 : I64 st) (h2 : I64 fo) (h3 : I64 pub) (W : World) : VM W (newV st fo pub) none 0 0 none 0 0 := ⟨h1, h2, h3, ds_nil _, HS.nil0 _, Nat.zero_le _⟩
theorem tex_sv {s t : St} {A : Ent} (h : Tex s t A) (w : World) : SV (fun _ => True) w none 0 0 s := by
 refine ⟨?_, ?_, ?_⟩
 · rw [h.logs]; exact LS.nil0 _ _
 · rw [h.id]; exact ⟨by decide, by decide⟩
 · rw [h.priv]; exact ⟨by decide, by decide⟩

set_option maxRecDepth 100000 in
set_option maxHeartbeats 40000000 in
theorem tsane_any (w : World) (HT : Tabs w) : Calls Tryz.prog 10 #[] w (RetBo true w) := by
 have HT' := Lib.hid HT
 clear HT
 obtain ⟨s, t, A, hEx⟩ := Sto.tex_there
 obtain ⟨X, hX⟩ : ∃ X, X = RetBo true w := ⟨_, rfl⟩
 have hfin : Hid (∀ W, Below w.heap.size w W → X (.returned (.bool true)) W) := fun W hb => by rw [hX]; exact ⟨rfl, hb⟩
 rw [← hX]
 clear hX
 have hsv := Lib.hid (tex_sv hEx)
 have cv1 : ∀ W : World, (convert 76 76 (.slice (some ⟨W.heap.size, 0, none⟩) 1 1)).run Tryz.prog (W.alloc (.cells #[.int .u8 97] 5)) = .ok (.slice (some ⟨W.heap.size, 0, none⟩) 1 1) (W.alloc (.cells #[.int .u8 97] 5 (1, 2))) := lconv 97
 obtain ⟨p, hp⟩ : ∃ p, Hid (pubB 4 5 = p) := ⟨_, rfl⟩
 have hpb : Hid (I64 p) := by show I64 _; rw [← hp.out]; have := pubB_bd 4 5; exact ⟨by omega, by omega⟩
 have hpu : Hid (∀ W, Calls Tryz.prog 13 #[.int .i64 5] W (RetII (p, 0) W)) := fun W => by
  have := Public_any 5 W
  rwa [publicK_t (by decide), hp.out] at this
 have e0 : Sto.showL t [frk 0] 0 3 = ([A], 0) := showL_of hEx.sh0 (.inl rfl)
 have e1 : Sto.showL t [frk 0] 1 3 = ([forkE A], 0) := showL_of hEx.sh1 (.inl rfl)
 obtain ⟨hA, okA, hkA, sgA⟩ := show_hk (rs := [frk 0]) (dev := 0) hEx.bd3
 obtain ⟨hZ, okZ, hkZ, sgZ⟩ := show_hk (rs := [frk 0]) (dev := 1) hEx.bd3
 rw [e0, hEx.tid, hEx.tpriv, hp.out] at sgA
 rw [e1, hEx.tid, hEx.tpriv, hp.out] at sgZ
 have hsA := Lib.hid (fun (va : Option Addr) (vc : Nat) W (h : Tabs W) (hS : SV (fun _ => True) W va t.logs.length vc t) ra rn rc (hR : RuS W ra rn rc [frk 0]) => shk_any hkA ⟨by decide, by decide⟩ h hS hR hEx.bd3)
 have hsZ := Lib.hid (fun (va : Option Addr) (vc : Nat) W (h : Tabs W) (hS : SV (fun _ => True) W va t.logs.length vc t) ra rn rc (hR : RuS W ra rn rc [frk 0]) => shk_any hkZ ⟨by decide, by decide⟩ h hS hR hEx.bd3)
 rw [e0] at hsA
 rw [e1] at hsZ
 have sA' : Hid (Sg 0 3 p [A.dig] hA) := sgA rfl
 have sZ' : Hid (Sg 0 3 p [(forkE A).dig] hZ) := sgZ rfl
 have enA : Hid (∀ e ∈ [A], Go.Vw.entOk e = true) := fun e he => by rw [List.mem_singleton] at he; rw [he]; exact hEx.okA
 have enZ : Hid (∀ e ∈ [forkE A], Go.Vw.entOk e = true) := fun e he => by rw [List.mem_singleton] at he; rw [he]; exact Sto.entOk_fork hEx.okA
 have hdf := Lib.hid hEx.df
 have hput := Lib.hid hEx.put1
 have hid0 := hEx.id
 have hpr0 := hEx.priv
 have hti := Lib.hid hEx.tid
 have htp := Lib.hid hEx.tpriv
 clear e0 e1 hkA hkZ sgA sgZ hp
 obtain ⟨B, hB⟩ : ∃ B, Hid (forkE A = B) := ⟨_, rfl⟩
 rw [hB.out] at hsZ sZ' enZ hdf
 clear hEx hB
 go_enter Tryz.func10, Tryz.ntmps10
 go_wp2_with fail
 refine (lex_new s hid0 hpr0 _).mono ?_
 rintro e w1 ⟨rfl, hbw0⟩
 have hbw := Lib.hid hbw0
 have hw1 : Hid (w.heap.size ≤ w1.heap.size) := hbw0.size
 clear hbw0 hid0 hpr0
 obtain ⟨v1, hP⟩ : ∃ V, Hid (PutR 24 (w1.alloc (.cells ([.int .i64 0, .int .i64 0, .slice none 0 0] : List Value).toArray 24)) V w1.heap.size 24 ([.int .i64 s.id, .int .i64 s.priv, .slice none 0 0])) := put_row (Blk.new w1 24 ([.int .i64 0, .int .i64 0, .slice none 0 0])) rfl (sizeSt3) (st_one _ _ _ _ _)
 have hst := below_grown ((Below.refl _ w1).alloc (Nat.le_refl _) _) hP.out.grown (by simp) (Nat.le_refl _)
 replace hbw := Lib.hid (hbw.out.trans (hst.mono hbw.out.size))
 clear hst
 have hBs := Lib.hid hP.out.blk
 have s0 := hBs.out.at_ (i := 0) rfl
 have s1 := hBs.out.at_ (i := 1) rfl
 have s2 := hBs.out.at_ (i := 2) rfl
 go_wp2_with (first
  | (refine wpList_store_mid (by rfl) 24 (.tmp 1) (.tmp 26) (by rfl) w1.heap.size 0 ([.int .i64 s.id, .int .i64 s.priv, .slice none 0 0]).toArray (by rfl) (by rfl) hP.out.there hP.out.info (by simpa using hP.out.one) ?_
     generalize hWq : World.setCells _ _ _ _ = Wa
     obtain rfl : v1 = Wa := by rw [← hWq]; exact hP.out.eq
     clear hWq))
 clear s0 s1 s2 hP
 have hBs0 : Hid (w1.heap.size < v1.heap.size) := hBs.out.lt
 have hal : Below v1.heap.size v1 (v1.alloc (.cells #[.int .u8 97] 5 (1, 2))) := (Below.refl _ v1).alloc (Nat.le_refl _) _
 refine (lex_put hput.out (show I64 3 from ⟨by decide, by decide⟩) ⟨by decide, by decide⟩ (HT'.out.below (hbw.out.trans (hal.mono hbw.out.size))) (hsv.out _) (lbs 97 (by decide) v1)).mono ?_
 rintro e w2 ⟨ta, tc, rfl, hS, hb⟩
 have hst := hal.trans (hb.mono hal.size)
 replace hBs := Lib.hid (hBs.out.below hst hBs.out.lt)
 replace hbw := Lib.hid (hbw.out.trans (hst.mono hbw.out.size))
 obtain ⟨v2, hP⟩ : ∃ V, Hid (PutR 24 w2 V w1.heap.size 24 ([.int .i64 t.id, .int .i64 t.priv, .slice ta t.logs.length tc])) := put_row hBs.out rfl sizeSt3 (st_one _ _ _ _ _)
 have hSt : Hid (SV (fun _ => True) v2 ta t.logs.length tc t) := (hS.keep (Keeps.grown hP.out.grown fun b hb e => by have := hBs0.out; have := hal.size; omega)).imp fun _ _ _ => trivial
 have hBt := Lib.hid hP.out.blk
 replace hbw := Lib.hid (below_grown hbw.out hP.out.grown hbw.out.size hw1.out)
 clear hst hb hal hS hBs hBs0 hw1 hput hsv
 have t0 := hBt.out.at_ (i := 0) rfl
 have t1 := hBt.out.at_ (i := 1) rfl
 have t2 := hBt.out.at_ (i := 2) rfl
 have hrm : Hid (RuS (v2.alloc (.cells #[.int .i64 1, .int .i64 5, .int .i64 1] 72)) (some ⟨v2.heap.size, 0, none⟩) 1 1 [frk 0]) := rus_made v2 [frk 0] 1 rfl (by decide) (by decide)
 go_upto_region 5 with (first
  | (refine wpList_store_mid (by rfl) 24 (.tmp 1) (.tmp 33) (by rfl) w1.heap.size 0 ([.int .i64 t.id, .int .i64 t.priv, .slice ta t.logs.length tc]).toArray (by rfl) (by rfl) hP.out.there hP.out.info (by simpa using hP.out.one) ?_
     generalize hWq : World.setCells _ _ _ _ = Wa
     obtain rfl : v2 = Wa := by rw [← hWq]; exact hP.out.eq
     clear hWq))
 clear hP
 have hal : Below v2.heap.size v2 (v2.alloc (.cells #[.int .i64 1, .int .i64 5, .int .i64 1] 72)) := (Below.refl _ v2).alloc (Nat.le_refl _) _
 replace hBt := Lib.hid (hBt.out.below hal hBt.out.lt)
 replace hSt := Lib.hid (hSt.out.below hal)
 replace hbw := Lib.hid (hbw.out.trans (hal.mono hbw.out.size))
 have hRr := hrm
 clear hrm hal
 obtain ⟨v3, hP⟩ : ∃ V, Hid (PutR 27 ((v2.alloc (.cells #[.int .i64 1, .int .i64 5, .int .i64 1] 72)).alloc (.cells ([.int .i64 0, .int .i64 0, .slice none 0 0, .slice none 0 0] : List Value).toArray 27)) V (v2.alloc (.cells #[.int .i64 1, .int .i64 5, .int .i64 1] 72)).heap.size 27 ([.int .i64 t.id, .int .i64 t.priv, .slice ta t.logs.length tc, .slice (some ⟨v2.heap.size, 0, none⟩) 1 1])) := put_row (Blk.new (v2.alloc (.cells #[.int .i64 1, .int .i64 5, .int .i64 1] 72)) 27 ([.int .i64 0, .int .i64 0, .slice none 0 0, .slice none 0 0])) rfl (sizeLi) (li_one _ _ _ _ _ _ _ _)
 have hst := below_grown ((Below.refl _ (v2.alloc (.cells #[.int .i64 1, .int .i64 5, .int .i64 1] 72))).alloc (Nat.le_refl _) _) hP.out.grown (by simp) (Nat.le_refl _)
 replace hBt := Lib.hid (hBt.out.below hst hBt.out.lt)
 replace hSt := Lib.hid (hSt.out.below hst)
 replace hRr := Lib.hid (hRr.out.below hst)
 replace hbw := Lib.hid (hbw.out.trans (hst.mono hbw.out.size))
 clear hst
 have hBl := Lib.hid hP.out.blk
 rw [show (v2.alloc (.cells #[.int .i64 1, .int .i64 5, .int .i64 1] 72)).heap.size = v2.heap.size + 1 from World.size_alloc _ _] at hP hBl
 have l0 := hBl.out.at_ (i := 0) rfl
 have l1 := hBl.out.at_ (i := 1) rfl
 have l2 := hBl.out.at_ (i := 2) rfl
 have l3 := hBl.out.at_ (i := 3) rfl
 go_wp2_with (first
  | (refine wpList_store_mid (by rfl) 27 (.tmp 5) (.tmp 45) (by rfl) (v2.heap.size + 1) 0 ([.int .i64 t.id, .int .i64 t.priv, .slice ta t.logs.length tc, .slice (some ⟨v2.heap.size, 0, none⟩) 1 1]).toArray (by rfl) (by rfl) hP.out.there hP.out.info (by simpa using hP.out.one) ?_
     generalize hWq : World.setCells _ _ _ _ = Wa
     obtain rfl : v3 = Wa := by rw [← hWq]; exact hP.out.eq
     clear hWq))
 clear t0 t1 t2 hP
 refine (hsA.out ta tc _ (HT'.out.below hbw.out) hSt.out _ 1 1 hRr.out).mono ?_
 rintro e w4 ⟨va, vc, rfl, hE, hst⟩
 clear l0 l1 l2 l3
 replace hBt := Lib.hid (hBt.out.below hst hBt.out.lt)
 replace hSt := Lib.hid (hSt.out.below hst)
 replace hRr := Lib.hid (hRr.out.below hst)
 replace hBl := Lib.hid (hBl.out.below hst hBl.out.lt)
 replace hbw := Lib.hid (hbw.out.trans (hst.mono hbw.out.size))
 have hE4 : Hid (ES (fun _ => True) w4 va 1 vc [A]) := hE.imp fun _ _ _ => trivial
 clear hst hE
 obtain ⟨v4, hP⟩ : ∃ V, Hid (PutR 36 (w4.alloc (.cells (zeroHd : List Value).toArray 36)) V w4.heap.size 36 (hdC hA)) := put_row (Blk.new w4 36 (zeroHd)) (by rw [hdC_len okA, zeroHd_len]) (by rw [hdC_len okA]; exact size37) ((hdC_r okA).one)
 have hst := below_grown ((Below.refl _ w4).alloc (Nat.le_refl _) _) hP.out.grown (by simp) (Nat.le_refl _)
 replace hBt := Lib.hid (hBt.out.below hst hBt.out.lt)
 replace hSt := Lib.hid (hSt.out.below hst)
 replace hRr := Lib.hid (hRr.out.below hst)
 replace hBl := Lib.hid (hBl.out.below hst hBl.out.lt)
 replace hE4 := Lib.hid (hE4.out.below hst)
 replace hbw := Lib.hid (hbw.out.trans (hst.mono hbw.out.size))
 clear hst
 have hH4 := Lib.hid hP.out.blk
 have l0 := hBl.out.at_ (i := 0) rfl
 have l1 := hBl.out.at_ (i := 1) rfl
 have l2 := hBl.out.at_ (i := 2) rfl
 have l3 := hBl.out.at_ (i := 3) rfl
 go_wp2_with (first
  | (refine wpList_store_mid (by rfl) 36 (.tmp 7) (.tmp 50) (by rfl) w4.heap.size 0 (hdC hA).toArray (by rfl) (by rfl) hP.out.there hP.out.info (by simpa using hP.out.one) ?_
     generalize hWq : World.setCells _ _ _ _ = Wa
     obtain rfl : v4 = Wa := by rw [← hWq]; exact hP.out.eq
     clear hWq))
 clear hP
 refine (hsZ.out ta tc _ (HT'.out.below hbw.out) hSt.out _ 1 1 hRr.out).mono ?_
 rintro e w5 ⟨vb, vd, rfl, hE, hst⟩
 clear l0 l1 l2 l3
 replace hBt := Lib.hid (hBt.out.below hst hBt.out.lt)
 replace hSt := Lib.hid (hSt.out.below hst)
 replace hRr := Lib.hid (hRr.out.below hst)
 replace hBl := Lib.hid (hBl.out.below hst hBl.out.lt)
 replace hE4 := Lib.hid (hE4.out.below hst)
 replace hH4 := Lib.hid (hH4.out.below hst hH4.out.lt)
 replace hbw := Lib.hid (hbw.out.trans (hst.mono hbw.out.size))
 have hE5 : Hid (ES (fun _ => True) w5 vb 1 vd [B]) := hE.imp fun _ _ _ => trivial
 clear hst hE
 obtain ⟨v5, hP⟩ : ∃ V, Hid (PutR 36 (w5.alloc (.cells (zeroHd : List Value).toArray 36)) V w5.heap.size 36 (hdC hZ)) := put_row (Blk.new w5 36 (zeroHd)) (by rw [hdC_len okZ, zeroHd_len]) (by rw [hdC_len okZ]; exact size37) ((hdC_r okZ).one)
 have hst := below_grown ((Below.refl _ w5).alloc (Nat.le_refl _) _) hP.out.grown (by simp) (Nat.le_refl _)
 replace hBt := Lib.hid (hBt.out.below hst hBt.out.lt)
 replace hSt := Lib.hid (hSt.out.below hst)
 replace hRr := Lib.hid (hRr.out.below hst)
 replace hBl := Lib.hid (hBl.out.below hst hBl.out.lt)
 replace hE4 := Lib.hid (hE4.out.below hst)
 replace hH4 := Lib.hid (hH4.out.below hst hH4.out.lt)
 replace hE5 := Lib.hid (hE5.out.below hst)
 replace hbw := Lib.hid (hbw.out.trans (hst.mono hbw.out.size))
 clear hst
 have hH5 := Lib.hid hP.out.blk
 go_wp2_with (first
  | (refine wpList_store_mid (by rfl) 36 (.tmp 10) (.tmp 56) (by rfl) w5.heap.size 0 (hdC hZ).toArray (by rfl) (by rfl) hP.out.there hP.out.info (by simpa using hP.out.one) ?_
     generalize hWq : World.setCells _ _ _ _ = Wa
     obtain rfl : v5 = Wa := by rw [← hWq]; exact hP.out.eq
     clear hWq))
 clear hP
 refine (hpu.out _).mono ?_
 rintro e w6 ⟨rfl, hst⟩
 replace hBt := Lib.hid (hBt.out.below hst hBt.out.lt)
 replace hSt := Lib.hid (hSt.out.below hst)
 replace hRr := Lib.hid (hRr.out.below hst)
 replace hBl := Lib.hid (hBl.out.below hst hBl.out.lt)
 replace hE4 := Lib.hid (hE4.out.below hst)
 replace hH4 := Lib.hid (hH4.out.below hst hH4.out.lt)
 replace hE5 := Lib.hid (hE5.out.below hst)
 replace hH5 := Lib.hid (hH5.out.below hst hH5.out.lt)
 replace hbw := Lib.hid (hbw.out.trans (hst.mono hbw.out.size))
 clear hst
 go_upto_region 9 with fail
 clear hBl hRr hSt hBt
 have hacc : Hid (accV (newV 0 3 p) [A] hA = (⟨0, 3, p, [A.dig], [hA]⟩, zeroF, 0)) := Go.Vw.acc_new ⟨by decide, by decide⟩ ⟨by decide, by decide⟩ rfl enA.out sA'.out
 have hgl := hH4.out.lt
 have hgr := Lib.hid hH4.out.range
 have hgi := infoHd okA
 refine share (G := ∀ (q9 : Nat) (q10 : Nat) (xa : Option Addr) (xc : Nat) (ya : Option Addr) (yc : Nat) (fa : Option Addr) (fc : Nat) (WZ : World), (Below w6.heap.size w6 WZ) → (Blk WZ q9 45 ([.int .i64 0, .int .i64 3, .int .i64 p, .slice xa 1 xc, .slice ya 1 yc])) → (w6.heap.size ≤ q9) → (Blk WZ q10 48 (forkC zeroF fa 0 fc)) → (w6.heap.size ≤ q10) → (q9 ≠ q10) → (VM WZ ⟨0, 3, p, [A.dig], [hA]⟩ xa 1 xc ya 1 yc) → (0 < 1 → ∀ ad, xa = some ad → ad.block ≠ q9) → (0 < 1 → ∀ ad, xa = some ad → ad.block ≠ q10) → (0 < 1 → ∀ ad, ya = some ad → ad.block ≠ q9) → (0 < 1 → ∀ ad, ya = some ad → ad.block ≠ q10) → (?GfinR9 : Nat → Nat → Option Addr → Nat → Option Addr → Nat → Option Addr → Nat → World → Prop) q9 q10 xa xc ya yc fa fc WZ) ?hfinR9 ?kfinR9
 case' hfinR9 =>
  intro KfinR9
 case' hfinR9 =>
  refine share (G := ∀ (q9 : Nat) (q10 : Nat) (xa : Option Addr) (xc : Nat) (ya : Option Addr) (yc : Nat) (fa : Option Addr) (fc : Nat) (WZ : World), (Below w6.heap.size w6 WZ) → (Blk WZ q9 45 ([.int .i64 0, .int .i64 3, .int .i64 p, .slice xa 1 xc, .slice ya 1 yc])) → (w6.heap.size ≤ q9) → (Blk WZ q10 48 (zrF)) → (w6.heap.size ≤ q10) → (q9 ≠ q10) → (VM WZ ⟨0, 3, p, [A.dig], [hA]⟩ xa 1 xc ya 1 yc) → (0 < 1 → ∀ ad, xa = some ad → ad.block ≠ q9) → (0 < 1 → ∀ ad, xa = some ad → ad.block ≠ q10) → (0 < 1 → ∀ ad, ya = some ad → ad.block ≠ q9) → (0 < 1 → ∀ ad, ya = some ad → ad.block ≠ q10) → (?Gs3_9_10_R9 : Nat → Nat → Option Addr → Nat → Option Addr → Nat → Option Addr → Nat → World → Prop) q9 q10 xa xc ya yc fa fc WZ) ?hs3_9_10_R9 ?ks3_9_10_R9
 case' hs3_9_10_R9 => intro Ks3_9_10_R9
 case' hs3_9_10_R9 =>
  refine share (G := ∀ (q9 : Nat) (q10 : Nat) (xa : Option Addr) (xc : Nat) (ya : Option Addr) (yc : Nat) (fa : Option Addr) (fc : Nat) (WZ : World), (Below w6.heap.size w6 WZ) → (Blk WZ q9 45 (zrV)) → (w6.heap.size ≤ q9) → (Blk WZ q10 48 (zrF)) → (w6.heap.size ≤ q10) → (q9 ≠ q10) → (VM WZ ⟨0, 3, p, [A.dig], [hA]⟩ xa 1 xc ya 1 yc) → (0 < 1 → ∀ ad, xa = some ad → ad.block ≠ q9) → (0 < 1 → ∀ ad, xa = some ad → ad.block ≠ q10) → (0 < 1 → ∀ ad, ya = some ad → ad.block ≠ q9) → (0 < 1 → ∀ ad, ya = some ad → ad.block ≠ q10) → (?Gs2_9_10_R9 : Nat → Nat → Option Addr → Nat → Option Addr → Nat → Option Addr → Nat → World → Prop) q9 q10 xa xc ya yc fa fc WZ) ?hs2_9_10_R9 ?ks2_9_10_R9
 case' hs2_9_10_R9 => intro Ks2_9_10_R9
 case' hs2_9_10_R9 =>
  refine share (G := ∀ (q9 : Nat) (xa : Option Addr) (xc : Nat) (ya : Option Addr) (yc : Nat) (fa : Option Addr) (fc : Nat) (WZ : World), (Below w6.heap.size w6 WZ) → (Blk WZ q9 45 (zrV)) → (w6.heap.size ≤ q9) → (VM WZ ⟨0, 3, p, [A.dig], [hA]⟩ xa 1 xc ya 1 yc) → (0 < 1 → ∀ ad, xa = some ad → ad.block ≠ q9) → (0 < 1 → ∀ ad, ya = some ad → ad.block ≠ q9) → (?Gs2_9_R9 : Nat → Option Addr → Nat → Option Addr → Nat → Option Addr → Nat → World → Prop) q9 xa xc ya yc fa fc WZ) ?hs2_9_R9 ?ks2_9_R9
 case' hs2_9_R9 => intro Ks2_9_R9
 case' hs2_9_R9 =>
  refine share (G := ∀ (q10 : Nat) (xa : Option Addr) (xc : Nat) (ya : Option Addr) (yc : Nat) (fa : Option Addr) (fc : Nat) (WZ : World), (Below w6.heap.size w6 WZ) → (Blk WZ q10 48 (zrF)) → (w6.heap.size ≤ q10) → (VM WZ ⟨0, 3, p, [A.dig], [hA]⟩ xa 1 xc ya 1 yc) → (0 < 1 → ∀ ad, xa = some ad → ad.block ≠ q10) → (0 < 1 → ∀ ad, ya = some ad → ad.block ≠ q10) → (?Gs2_10_R9 : Nat → Option Addr → Nat → Option Addr → Nat → Option Addr → Nat → World → Prop) q10 xa xc ya yc fa fc WZ) ?hs2_10_R9 ?ks2_10_R9
 case' hs2_10_R9 => intro Ks2_10_R9
 case' hs2_10_R9 =>
  refine share (G := ∀ (xa : Option Addr) (xc : Nat) (ya : Option Addr) (yc : Nat) (fa : Option Addr) (fc : Nat) (WZ : World), (Below w6.heap.size w6 WZ) → (VM WZ ⟨0, 3, p, [A.dig], [hA]⟩ xa 1 xc ya 1 yc) → (?Gs2_R9 : Option Addr → Nat → Option Addr → Nat → Option Addr → Nat → World → Prop) xa xc ya yc fa fc WZ) ?hs2_R9 ?ks2_R9
 case' hs2_R9 => intro Ks2_R9
 case' hs2_R9 =>
  refine share (G := ∀ (q9 : Nat) (q10 : Nat) (WZ : World), (Below w6.heap.size w6 WZ) → (Blk WZ q9 45 (zrV)) → (w6.heap.size ≤ q9) → (Blk WZ q10 48 (zrF)) → (w6.heap.size ≤ q10) → (q9 ≠ q10) → (?Gs1_9_10_R9 : Nat → Nat → World → Prop) q9 q10 WZ) ?hs1_9_10_R9 ?ks1_9_10_R9
 case' hs1_9_10_R9 => intro Ks1_9_10_R9
 case' hs1_9_10_R9 =>
  refine share (G := ∀ (q9 : Nat) (WZ : World), (Below w6.heap.size w6 WZ) → (Blk WZ q9 45 (zrV)) → (w6.heap.size ≤ q9) → (?Gs1_9_R9 : Nat → World → Prop) q9 WZ) ?hs1_9_R9 ?ks1_9_R9
 case' hs1_9_R9 => intro Ks1_9_R9
 case' hs1_9_R9 =>
  refine share (G := ∀ (q10 : Nat) (WZ : World), (Below w6.heap.size w6 WZ) → (Blk WZ q10 48 (zrF)) → (w6.heap.size ≤ q10) → (?Gs1_10_R9 : Nat → World → Prop) q10 WZ) ?hs1_10_R9 ?ks1_10_R9
 case' hs1_10_R9 => intro Ks1_10_R9
 case' hs1_10_R9 =>
  refine share (G := ∀ (WZ : World), (Below w6.heap.size w6 WZ) → (?Gs1_R9 : World → Prop) WZ) ?hs1_R9 ?ks1_R9
 case' hs1_R9 => intro Ks1_R9
 case' hs1_R9 =>
  refine share (G := ∀ (q9 : Nat) (q10 : Nat) (WZ : World), (Below w6.heap.size w6 WZ) → (Blk WZ q9 45 (zrV)) → (w6.heap.size ≤ q9) → (Blk WZ q10 48 (zrF)) → (w6.heap.size ≤ q10) → (q9 ≠ q10) → (?Gs0_9_10_R9 : Nat → Nat → World → Prop) q9 q10 WZ) ?hs0_9_10_R9 ?ks0_9_10_R9
 case' hs0_9_10_R9 => intro Ks0_9_10_R9
 case' hs0_9_10_R9 =>
  refine share (G := ∀ (q9 : Nat) (WZ : World), (Below w6.heap.size w6 WZ) → (Blk WZ q9 45 (zrV)) → (w6.heap.size ≤ q9) → (?Gs0_9_R9 : Nat → World → Prop) q9 WZ) ?hs0_9_R9 ?ks0_9_R9
 case' hs0_9_R9 => intro Ks0_9_R9
 case' hs0_9_R9 =>
  refine share (G := ∀ (q10 : Nat) (WZ : World), (Below w6.heap.size w6 WZ) → (Blk WZ q10 48 (zrF)) → (w6.heap.size ≤ q10) → (?Gs0_10_R9 : Nat → World → Prop) q10 WZ) ?hs0_10_R9 ?ks0_10_R9
 case' hs0_10_R9 => intro Ks0_10_R9
 case hs0_10_R9 =>
  refine wp_region_held_drew (S := fun wz => Below w6.heap.size w6 wz) (by kernel_rfl) ((Below.refl _ w6).drew) (fun hHeld => ?_)
  generalize w6.drew = WZ at *
  refine tkq (i := 0) (oi := ⟨some 63, .move (.tmp 12), 3, "top32.go:66", #[], none⟩) rfl hHeld ?_
  refine tkq (i := 2) (oi := ⟨some 65, .move (.tmp 6), 30, "top32.go:66", #[], none⟩) rfl hHeld ?_
  refine tk (i := 3) (oi := ⟨some 66, .load 36 (.tmp 7), 36, "top32.go:66", #[], none⟩) rfl (yieldsIf_load_mid (by rfl) _ _ rfl w4.heap.size 0 rfl (hdC hA) _ (fun wz h => fun j v hv => (h.cell (p := ⟨w4.heap.size, _, none⟩) hgl).trans (hgr.out j v hv)) Tryz.underlying36 rfl (hgi.out)) hHeld ?_
  refine Go.rd (rs := [1, 9, 10]) ?_
  refine Go.rc (o := ⟨some 64, .call { callee := .value (.func 14), args := #[Operand.const (Value.int .i64 0), Operand.const (Value.int .i64 3), .tmp 63], argTypes := #[3, 3, 3] }, 45, "top32.go:66", #[⟨0, .data⟩], none⟩) rfl (fun K hK => ?_) (Go.rc (o := ⟨some 14, .alloc 45, 0, "top32.go:66", #[], none⟩) rfl (fun K hK => ?_) (Go.rc (o := ⟨some 15, .alloc 48, 0, "top32.go:66", #[], none⟩) rfl (fun K hK => ?_) Go.rn))
  case refine_1 =>
   go_simp
   go_at_call 14
   refine (viewNew_any 0 3 p _).mono ?_
   rintro e wq ⟨rfl, hst⟩


   refine hK.out _ _ (hHeld.trans (hst.mono hHeld.size)) (fun hHeld2 => ?_)
   clear hK K
   try simp only [Act.put, sA, s0, s1]
   exact Ks1_R9  wq (hHeld2)
  case refine_2 =>
   go_simp
   refine hK.out _ _ (hHeld.alloc hHeld.size _) (fun hHeld2 => ?_)
   clear hK K
   try simp only [Act.put, sA, s0, s1]
   generalize hW2 : World.alloc WZ _ = W2
   rw [hW2] at hHeld2
   generalize hq : WZ.heap.size = q9
   have hBn : Blk W2 q9 45 (zrV) := by rw [← hW2, ← hq]; exact Blk.new _ _ _
   have hLn := hHeld.size
   rw [hq] at hLn
   clear hW2 hq
   exact Ks0_9_R9 q9 W2 (hHeld2) (hBn) (hLn)
  case refine_3 =>
   go_simp
   refine hK.out _ _ (hHeld.alloc hHeld.size _) (fun hHeld2 => ?_)
   clear hK K
   try simp only [Act.put, sA, s0, s1]
   generalize hW2 : World.alloc WZ _ = W2
   rw [hW2] at hHeld2
   generalize hq : WZ.heap.size = q10
   have hBn : Blk W2 q10 48 (zrF) := by rw [← hW2, ← hq]; exact Blk.new _ _ _
   have hLn := hHeld.size
   rw [hq] at hLn
   clear hW2 hq
   exact Ks0_10_R9 q10 W2 (hHeld2) (hBn) (hLn)
 case ks0_10_R9 =>
  intro q10 WZ hHeld hB10 hL10
  refine Go.rd (rs := [1, 9]) ?_
  refine Go.rc (o := ⟨some 64, .call { callee := .value (.func 14), args := #[Operand.const (Value.int .i64 0), Operand.const (Value.int .i64 3), .tmp 63], argTypes := #[3, 3, 3] }, 45, "top32.go:66", #[⟨0, .data⟩], none⟩) rfl (fun K hK => ?_) (Go.rc (o := ⟨some 14, .alloc 45, 0, "top32.go:66", #[], none⟩) rfl (fun K hK => ?_) Go.rn)
  case refine_1 =>
   go_simp
   go_at_call 14
   refine (viewNew_any 0 3 p _).mono ?_
   rintro e wq ⟨rfl, hst⟩


   refine hK.out _ _ (hHeld.trans (hst.mono hHeld.size)) (fun hHeld2 => ?_)
   clear hK K
   try simp only [Act.put, sA, s0, s1]
   exact Ks1_10_R9 q10 wq (hHeld2) (hB10.below hst hB10.lt) (hL10)
  case refine_2 =>
   go_simp
   refine hK.out _ _ (hHeld.alloc hHeld.size _) (fun hHeld2 => ?_)
   clear hK K
   try simp only [Act.put, sA, s0, s1]
   generalize hW2 : World.alloc WZ _ = W2
   rw [hW2] at hHeld2
   generalize hq : WZ.heap.size = q9
   have hBn : Blk W2 q9 45 (zrV) := by rw [← hW2, ← hq]; exact Blk.new _ _ _
   have hLn := hHeld.size
   rw [hq] at hLn
   have hB10' : Blk W2 q10 48 (zrF) := by rw [← hW2]; exact hB10.alloc _
   have hN10' := hB10.lt
   rw [hq] at hN10'
   clear hW2 hq
   exact Ks0_9_10_R9 q9 q10 W2 (hHeld2) (hBn) (hLn) (hB10') (hL10) ((by omega))
 case ks0_9_R9 =>
  intro q9 WZ hHeld hB9 hL9
  refine Go.rd (rs := [1, 10]) ?_
  refine Go.rc (o := ⟨some 64, .call { callee := .value (.func 14), args := #[Operand.const (Value.int .i64 0), Operand.const (Value.int .i64 3), .tmp 63], argTypes := #[3, 3, 3] }, 45, "top32.go:66", #[⟨0, .data⟩], none⟩) rfl (fun K hK => ?_) (Go.rc (o := ⟨some 15, .alloc 48, 0, "top32.go:66", #[], none⟩) rfl (fun K hK => ?_) Go.rn)
  case refine_1 =>
   go_simp
   go_at_call 14
   refine (viewNew_any 0 3 p _).mono ?_
   rintro e wq ⟨rfl, hst⟩


   refine hK.out _ _ (hHeld.trans (hst.mono hHeld.size)) (fun hHeld2 => ?_)
   clear hK K
   try simp only [Act.put, sA, s0, s1]
   exact Ks1_9_R9 q9 wq (hHeld2) (hB9.below hst hB9.lt) (hL9)
  case refine_2 =>
   go_simp
   refine hK.out _ _ (hHeld.alloc hHeld.size _) (fun hHeld2 => ?_)
   clear hK K
   try simp only [Act.put, sA, s0, s1]
   generalize hW2 : World.alloc WZ _ = W2
   rw [hW2] at hHeld2
   generalize hq : WZ.heap.size = q10
   have hBn : Blk W2 q10 48 (zrF) := by rw [← hW2, ← hq]; exact Blk.new _ _ _
   have hLn := hHeld.size
   rw [hq] at hLn
   have hB9' : Blk W2 q9 45 (zrV) := by rw [← hW2]; exact hB9.alloc _
   have hN9' := hB9.lt
   rw [hq] at hN9'
   clear hW2 hq
   exact Ks0_9_10_R9 q9 q10 W2 (hHeld2) (hB9') (hL9) (hBn) (hLn) ((by omega))
 case ks0_9_10_R9 =>
  intro q9 q10 WZ hHeld hB9 hL9 hB10 hL10 hN9_10
  refine Go.rd (rs := [1]) ?_
  refine Go.rc (o := ⟨some 64, .call { callee := .value (.func 14), args := #[Operand.const (Value.int .i64 0), Operand.const (Value.int .i64 3), .tmp 63], argTypes := #[3, 3, 3] }, 45, "top32.go:66", #[⟨0, .data⟩], none⟩) rfl (fun K hK => ?_) Go.rn
  go_simp
  go_at_call 14
  refine (viewNew_any 0 3 p _).mono ?_
  rintro e wq ⟨rfl, hst⟩


  refine hK.out _ _ (hHeld.trans (hst.mono hHeld.size)) (fun hHeld2 => ?_)
  clear hK K
  try simp only [Act.put, sA, s0, s1]
  exact Ks1_9_10_R9 q9 q10 wq (hHeld2) (hB9.below hst hB9.lt) (hL9) (hB10.below hst hB10.lt) (hL10) (hN9_10)
 case ks1_R9 =>
  intro  WZ hHeld
  refine Go.rd (rs := [4, 9, 10]) ?_
  refine Go.rc (o := ⟨some 67, .call { callee := .value (.func 15), args := #[.tmp 64, .tmp 65, .tmp 66], argTypes := #[45, 30, 36] }, 49, "top32.go:66", #[⟨1, .data⟩, ⟨2, .data⟩, ⟨3, .data⟩, ⟨1, .chain⟩], none⟩) rfl (fun K hK => ?_) (Go.rc (o := ⟨some 14, .alloc 45, 0, "top32.go:66", #[], none⟩) rfl (fun K hK => ?_) (Go.rc (o := ⟨some 15, .alloc 48, 0, "top32.go:66", #[], none⟩) rfl (fun K hK => ?_) Go.rn))
  case refine_1 =>
   go_simp
   go_at_call 15
   have hac := accept_sep (newV 0 3 p) none 0 0 none 0 0 va 1 vc [A] hA okA _ (HT'.out.below (hbw.out.trans (hHeld.mono hbw.out.size))) (vmN1 ⟨by decide, by decide⟩ ⟨by decide, by decide⟩ hpb.out _) (hE4.out.below hHeld) (by decide)
   rw [hacc.out] at hac
   refine hac.mono ?_
   rintro e wq ⟨xa, xn, xc, ya, yn, yc, fa, fn, fc, rfl, hVM, _, hDf, _, hst, hF1, hF2, _⟩
   obtain rfl : xn = 1 := hVM.ds.len.symm
   obtain rfl : yn = 1 := hVM.hs.rs.len.symm
   obtain rfl : fn = 0 := hDf.len.symm

   refine hK.out _ _ (hHeld.trans (hst.mono hHeld.size)) (fun hHeld2 => ?_)
   clear hK K
   refine tkq (i := 5) (oi := ⟨some 62, .move (.tmp 67), 49, "top32.go:66", #[⟨4, .data⟩], none⟩) rfl hHeld2 ?_
   refine tkq (i := 6) (oi := ⟨some 68, .extract (.tmp 62) 0, 45, "top32.go:66", #[⟨5, .data⟩], none⟩) rfl hHeld2 ?_
   refine tkq (i := 7) (oi := ⟨some 69, .extract (.tmp 62) 1, 48, "top32.go:66", #[⟨5, .data⟩, ⟨11, .gcOnly .lateStores⟩], none⟩) rfl hHeld2 ?_
   refine tkq (i := 8) (oi := ⟨some 70, .extract (.tmp 62) 2, 37, "top32.go:66", #[⟨5, .data⟩, ⟨12, .gcOnly .lateStores⟩], none⟩) rfl hHeld2 ?_
   exact Ks2_R9 xa xc ya yc fa fc wq (hHeld2) (hVM)
  case refine_2 =>
   go_simp
   refine hK.out _ _ (hHeld.alloc hHeld.size _) (fun hHeld2 => ?_)
   clear hK K
   try simp only [Act.put, sA, s0, s1]
   generalize hW2 : World.alloc WZ _ = W2
   rw [hW2] at hHeld2
   generalize hq : WZ.heap.size = q9
   have hBn : Blk W2 q9 45 (zrV) := by rw [← hW2, ← hq]; exact Blk.new _ _ _
   have hLn := hHeld.size
   rw [hq] at hLn
   clear hW2 hq
   exact Ks1_9_R9 q9 W2 (hHeld2) (hBn) (hLn)
  case refine_3 =>
   go_simp
   refine hK.out _ _ (hHeld.alloc hHeld.size _) (fun hHeld2 => ?_)
   clear hK K
   try simp only [Act.put, sA, s0, s1]
   generalize hW2 : World.alloc WZ _ = W2
   rw [hW2] at hHeld2
   generalize hq : WZ.heap.size = q10
   have hBn : Blk W2 q10 48 (zrF) := by rw [← hW2, ← hq]; exact Blk.new _ _ _
   have hLn := hHeld.size
   rw [hq] at hLn
   clear hW2 hq
   exact Ks1_10_R9 q10 W2 (hHeld2) (hBn) (hLn)
 case ks1_10_R9 =>
  intro q10 WZ hHeld hB10 hL10
  refine Go.rd (rs := [4, 9]) ?_
  refine Go.rc (o := ⟨some 67, .call { callee := .value (.func 15), args := #[.tmp 64, .tmp 65, .tmp 66], argTypes := #[45, 30, 36] }, 49, "top32.go:66", #[⟨1, .data⟩, ⟨2, .data⟩, ⟨3, .data⟩, ⟨1, .chain⟩], none⟩) rfl (fun K hK => ?_) (Go.rc (o := ⟨some 14, .alloc 45, 0, "top32.go:66", #[], none⟩) rfl (fun K hK => ?_) Go.rn)
  case refine_1 =>
   go_simp
   go_at_call 15
   have hac := accept_sep (newV 0 3 p) none 0 0 none 0 0 va 1 vc [A] hA okA _ (HT'.out.below (hbw.out.trans (hHeld.mono hbw.out.size))) (vmN1 ⟨by decide, by decide⟩ ⟨by decide, by decide⟩ hpb.out _) (hE4.out.below hHeld) (by decide)
   rw [hacc.out] at hac
   refine hac.mono ?_
   rintro e wq ⟨xa, xn, xc, ya, yn, yc, fa, fn, fc, rfl, hVM, _, hDf, _, hst, hF1, hF2, _⟩
   obtain rfl : xn = 1 := hVM.ds.len.symm
   obtain rfl : yn = 1 := hVM.hs.rs.len.symm
   obtain rfl : fn = 0 := hDf.len.symm
   have hS10a' : 0 < 1 → ∀ ad, xa = some ad → ad.block ≠ q10 := fun hp ad e => by
    rcases hF1 hp ad e with hz | hz
    · have := hB10.lt; omega
    · cases hz
   have hS10b' : 0 < 1 → ∀ ad, ya = some ad → ad.block ≠ q10 := fun hp ad e => by
    rcases hF2 hp ad e with hz | hz
    · have := hB10.lt; omega
    · cases hz
   refine hK.out _ _ (hHeld.trans (hst.mono hHeld.size)) (fun hHeld2 => ?_)
   clear hK K
   refine tkq (i := 5) (oi := ⟨some 62, .move (.tmp 67), 49, "top32.go:66", #[⟨4, .data⟩], none⟩) rfl hHeld2 ?_
   refine tkq (i := 6) (oi := ⟨some 68, .extract (.tmp 62) 0, 45, "top32.go:66", #[⟨5, .data⟩], none⟩) rfl hHeld2 ?_
   refine tkq (i := 7) (oi := ⟨some 69, .extract (.tmp 62) 1, 48, "top32.go:66", #[⟨5, .data⟩, ⟨11, .gcOnly .lateStores⟩], none⟩) rfl hHeld2 ?_
   refine tkq (i := 8) (oi := ⟨some 70, .extract (.tmp 62) 2, 37, "top32.go:66", #[⟨5, .data⟩, ⟨12, .gcOnly .lateStores⟩], none⟩) rfl hHeld2 ?_
   exact Ks2_10_R9 q10 xa xc ya yc fa fc wq (hHeld2) (hB10.below hst hB10.lt) (hL10) (hVM) (hS10a') (hS10b')
  case refine_2 =>
   go_simp
   refine hK.out _ _ (hHeld.alloc hHeld.size _) (fun hHeld2 => ?_)
   clear hK K
   try simp only [Act.put, sA, s0, s1]
   generalize hW2 : World.alloc WZ _ = W2
   rw [hW2] at hHeld2
   generalize hq : WZ.heap.size = q9
   have hBn : Blk W2 q9 45 (zrV) := by rw [← hW2, ← hq]; exact Blk.new _ _ _
   have hLn := hHeld.size
   rw [hq] at hLn
   have hB10' : Blk W2 q10 48 (zrF) := by rw [← hW2]; exact hB10.alloc _
   have hN10' := hB10.lt
   rw [hq] at hN10'
   clear hW2 hq
   exact Ks1_9_10_R9 q9 q10 W2 (hHeld2) (hBn) (hLn) (hB10') (hL10) ((by omega))
 case ks1_9_R9 =>
  intro q9 WZ hHeld hB9 hL9
  refine Go.rd (rs := [4, 10]) ?_
  refine Go.rc (o := ⟨some 67, .call { callee := .value (.func 15), args := #[.tmp 64, .tmp 65, .tmp 66], argTypes := #[45, 30, 36] }, 49, "top32.go:66", #[⟨1, .data⟩, ⟨2, .data⟩, ⟨3, .data⟩, ⟨1, .chain⟩], none⟩) rfl (fun K hK => ?_) (Go.rc (o := ⟨some 15, .alloc 48, 0, "top32.go:66", #[], none⟩) rfl (fun K hK => ?_) Go.rn)
  case refine_1 =>
   go_simp
   go_at_call 15
   have hac := accept_sep (newV 0 3 p) none 0 0 none 0 0 va 1 vc [A] hA okA _ (HT'.out.below (hbw.out.trans (hHeld.mono hbw.out.size))) (vmN1 ⟨by decide, by decide⟩ ⟨by decide, by decide⟩ hpb.out _) (hE4.out.below hHeld) (by decide)
   rw [hacc.out] at hac
   refine hac.mono ?_
   rintro e wq ⟨xa, xn, xc, ya, yn, yc, fa, fn, fc, rfl, hVM, _, hDf, _, hst, hF1, hF2, _⟩
   obtain rfl : xn = 1 := hVM.ds.len.symm
   obtain rfl : yn = 1 := hVM.hs.rs.len.symm
   obtain rfl : fn = 0 := hDf.len.symm
   have hS9a' : 0 < 1 → ∀ ad, xa = some ad → ad.block ≠ q9 := fun hp ad e => by
    rcases hF1 hp ad e with hz | hz
    · have := hB9.lt; omega
    · cases hz
   have hS9b' : 0 < 1 → ∀ ad, ya = some ad → ad.block ≠ q9 := fun hp ad e => by
    rcases hF2 hp ad e with hz | hz
    · have := hB9.lt; omega
    · cases hz
   refine hK.out _ _ (hHeld.trans (hst.mono hHeld.size)) (fun hHeld2 => ?_)
   clear hK K
   refine tkq (i := 5) (oi := ⟨some 62, .move (.tmp 67), 49, "top32.go:66", #[⟨4, .data⟩], none⟩) rfl hHeld2 ?_
   refine tkq (i := 6) (oi := ⟨some 68, .extract (.tmp 62) 0, 45, "top32.go:66", #[⟨5, .data⟩], none⟩) rfl hHeld2 ?_
   refine tkq (i := 7) (oi := ⟨some 69, .extract (.tmp 62) 1, 48, "top32.go:66", #[⟨5, .data⟩, ⟨11, .gcOnly .lateStores⟩], none⟩) rfl hHeld2 ?_
   refine tkq (i := 8) (oi := ⟨some 70, .extract (.tmp 62) 2, 37, "top32.go:66", #[⟨5, .data⟩, ⟨12, .gcOnly .lateStores⟩], none⟩) rfl hHeld2 ?_
   exact Ks2_9_R9 q9 xa xc ya yc fa fc wq (hHeld2) (hB9.below hst hB9.lt) (hL9) (hVM) (hS9a') (hS9b')
  case refine_2 =>
   go_simp
   refine hK.out _ _ (hHeld.alloc hHeld.size _) (fun hHeld2 => ?_)
   clear hK K
   try simp only [Act.put, sA, s0, s1]
   generalize hW2 : World.alloc WZ _ = W2
   rw [hW2] at hHeld2
   generalize hq : WZ.heap.size = q10
   have hBn : Blk W2 q10 48 (zrF) := by rw [← hW2, ← hq]; exact Blk.new _ _ _
   have hLn := hHeld.size
   rw [hq] at hLn
   have hB9' : Blk W2 q9 45 (zrV) := by rw [← hW2]; exact hB9.alloc _
   have hN9' := hB9.lt
   rw [hq] at hN9'
   clear hW2 hq
   exact Ks1_9_10_R9 q9 q10 W2 (hHeld2) (hB9') (hL9) (hBn) (hLn) ((by omega))
 case ks1_9_10_R9 =>
  intro q9 q10 WZ hHeld hB9 hL9 hB10 hL10 hN9_10
  refine Go.rd (rs := [4]) ?_
  refine Go.rc (o := ⟨some 67, .call { callee := .value (.func 15), args := #[.tmp 64, .tmp 65, .tmp 66], argTypes := #[45, 30, 36] }, 49, "top32.go:66", #[⟨1, .data⟩, ⟨2, .data⟩, ⟨3, .data⟩, ⟨1, .chain⟩], none⟩) rfl (fun K hK => ?_) Go.rn
  go_simp
  go_at_call 15
  have hac := accept_sep (newV 0 3 p) none 0 0 none 0 0 va 1 vc [A] hA okA _ (HT'.out.below (hbw.out.trans (hHeld.mono hbw.out.size))) (vmN1 ⟨by decide, by decide⟩ ⟨by decide, by decide⟩ hpb.out _) (hE4.out.below hHeld) (by decide)
  rw [hacc.out] at hac
  refine hac.mono ?_
  rintro e wq ⟨xa, xn, xc, ya, yn, yc, fa, fn, fc, rfl, hVM, _, hDf, _, hst, hF1, hF2, _⟩
  obtain rfl : xn = 1 := hVM.ds.len.symm
  obtain rfl : yn = 1 := hVM.hs.rs.len.symm
  obtain rfl : fn = 0 := hDf.len.symm
  have hS9a' : 0 < 1 → ∀ ad, xa = some ad → ad.block ≠ q9 := fun hp ad e => by
   rcases hF1 hp ad e with hz | hz
   · have := hB9.lt; omega
   · cases hz
  have hS10a' : 0 < 1 → ∀ ad, xa = some ad → ad.block ≠ q10 := fun hp ad e => by
   rcases hF1 hp ad e with hz | hz
   · have := hB10.lt; omega
   · cases hz
  have hS9b' : 0 < 1 → ∀ ad, ya = some ad → ad.block ≠ q9 := fun hp ad e => by
   rcases hF2 hp ad e with hz | hz
   · have := hB9.lt; omega
   · cases hz
  have hS10b' : 0 < 1 → ∀ ad, ya = some ad → ad.block ≠ q10 := fun hp ad e => by
   rcases hF2 hp ad e with hz | hz
   · have := hB10.lt; omega
   · cases hz
  refine hK.out _ _ (hHeld.trans (hst.mono hHeld.size)) (fun hHeld2 => ?_)
  clear hK K
  refine tkq (i := 5) (oi := ⟨some 62, .move (.tmp 67), 49, "top32.go:66", #[⟨4, .data⟩], none⟩) rfl hHeld2 ?_
  refine tkq (i := 6) (oi := ⟨some 68, .extract (.tmp 62) 0, 45, "top32.go:66", #[⟨5, .data⟩], none⟩) rfl hHeld2 ?_
  refine tkq (i := 7) (oi := ⟨some 69, .extract (.tmp 62) 1, 48, "top32.go:66", #[⟨5, .data⟩, ⟨11, .gcOnly .lateStores⟩], none⟩) rfl hHeld2 ?_
  refine tkq (i := 8) (oi := ⟨some 70, .extract (.tmp 62) 2, 37, "top32.go:66", #[⟨5, .data⟩, ⟨12, .gcOnly .lateStores⟩], none⟩) rfl hHeld2 ?_
  exact Ks2_9_10_R9 q9 q10 xa xc ya yc fa fc wq (hHeld2) (hB9.below hst hB9.lt) (hL9) (hB10.below hst hB10.lt) (hL10) (hN9_10) (hVM) (hS9a') (hS10a') (hS9b') (hS10b')
 case ks2_R9 =>
  intro xa xc ya yc fa fc WZ hHeld hVM
  refine Go.rd (rs := [9, 10]) ?_
  refine Go.rc (o := ⟨some 14, .alloc 45, 0, "top32.go:66", #[], none⟩) rfl (fun K hK => ?_) (Go.rc (o := ⟨some 15, .alloc 48, 0, "top32.go:66", #[], none⟩) rfl (fun K hK => ?_) Go.rn)
  case refine_1 =>
   go_simp
   refine hK.out _ _ (hHeld.alloc hHeld.size _) (fun hHeld2 => ?_)
   clear hK K
   try simp only [Act.put, sA, s0, s1]
   generalize hW2 : World.alloc WZ _ = W2
   rw [hW2] at hHeld2
   generalize hq : WZ.heap.size = q9
   have hBn : Blk W2 q9 45 (zrV) := by rw [← hW2, ← hq]; exact Blk.new _ _ _
   have hLn := hHeld.size
   rw [hq] at hLn
   have hVM' : VM W2 ⟨0, 3, p, [A.dig], [hA]⟩ xa 1 xc ya 1 yc := by rw [← hW2]; exact hVM.below ((Below.refl _ WZ).alloc (Nat.le_refl _) _)
   have hSna : 0 < 1 → ∀ ad, xa = some ad → ad.block ≠ q9 := fun hp ad e => by have hz := hVM.ds.at_lt hp ad e; rw [hq] at hz; omega
   have hSnb : 0 < 1 → ∀ ad, ya = some ad → ad.block ≠ q9 := fun hp ad e => by have hz := hVM.hs.at_lt hp ad e; rw [hq] at hz; omega
   clear hW2 hq
   exact Ks2_9_R9 q9 xa xc ya yc fa fc W2 (hHeld2) (hBn) (hLn) (hVM') (hSna) (hSnb)
  case refine_2 =>
   go_simp
   refine hK.out _ _ (hHeld.alloc hHeld.size _) (fun hHeld2 => ?_)
   clear hK K
   try simp only [Act.put, sA, s0, s1]
   generalize hW2 : World.alloc WZ _ = W2
   rw [hW2] at hHeld2
   generalize hq : WZ.heap.size = q10
   have hBn : Blk W2 q10 48 (zrF) := by rw [← hW2, ← hq]; exact Blk.new _ _ _
   have hLn := hHeld.size
   rw [hq] at hLn
   have hVM' : VM W2 ⟨0, 3, p, [A.dig], [hA]⟩ xa 1 xc ya 1 yc := by rw [← hW2]; exact hVM.below ((Below.refl _ WZ).alloc (Nat.le_refl _) _)
   have hSna : 0 < 1 → ∀ ad, xa = some ad → ad.block ≠ q10 := fun hp ad e => by have hz := hVM.ds.at_lt hp ad e; rw [hq] at hz; omega
   have hSnb : 0 < 1 → ∀ ad, ya = some ad → ad.block ≠ q10 := fun hp ad e => by have hz := hVM.hs.at_lt hp ad e; rw [hq] at hz; omega
   clear hW2 hq
   exact Ks2_10_R9 q10 xa xc ya yc fa fc W2 (hHeld2) (hBn) (hLn) (hVM') (hSna) (hSnb)
 case ks2_10_R9 =>
  intro q10 xa xc ya yc fa fc WZ hHeld hB10 hL10 hVM hS10a hS10b
  refine Go.rd (rs := [9]) ?_
  refine Go.rc (o := ⟨some 14, .alloc 45, 0, "top32.go:66", #[], none⟩) rfl (fun K hK => ?_) Go.rn
  go_simp
  refine hK.out _ _ (hHeld.alloc hHeld.size _) (fun hHeld2 => ?_)
  clear hK K
  try simp only [Act.put, sA, s0, s1]
  generalize hW2 : World.alloc WZ _ = W2
  rw [hW2] at hHeld2
  generalize hq : WZ.heap.size = q9
  have hBn : Blk W2 q9 45 (zrV) := by rw [← hW2, ← hq]; exact Blk.new _ _ _
  have hLn := hHeld.size
  rw [hq] at hLn
  have hB10' : Blk W2 q10 48 (zrF) := by rw [← hW2]; exact hB10.alloc _
  have hN10' := hB10.lt
  rw [hq] at hN10'
  have hVM' : VM W2 ⟨0, 3, p, [A.dig], [hA]⟩ xa 1 xc ya 1 yc := by rw [← hW2]; exact hVM.below ((Below.refl _ WZ).alloc (Nat.le_refl _) _)
  have hSna : 0 < 1 → ∀ ad, xa = some ad → ad.block ≠ q9 := fun hp ad e => by have hz := hVM.ds.at_lt hp ad e; rw [hq] at hz; omega
  have hSnb : 0 < 1 → ∀ ad, ya = some ad → ad.block ≠ q9 := fun hp ad e => by have hz := hVM.hs.at_lt hp ad e; rw [hq] at hz; omega
  clear hW2 hq
  exact Ks2_9_10_R9 q9 q10 xa xc ya yc fa fc W2 (hHeld2) (hBn) (hLn) (hB10') (hL10) ((by omega)) (hVM') (hSna) (hS10a) (hSnb) (hS10b)
 case ks2_9_R9 =>
  intro q9 xa xc ya yc fa fc WZ hHeld hB9 hL9 hVM hS9a hS9b
  refine Go.rd (rs := [10]) ?_
  refine Go.rc (o := ⟨some 15, .alloc 48, 0, "top32.go:66", #[], none⟩) rfl (fun K hK => ?_) Go.rn
  go_simp
  refine hK.out _ _ (hHeld.alloc hHeld.size _) (fun hHeld2 => ?_)
  clear hK K
  try simp only [Act.put, sA, s0, s1]
  generalize hW2 : World.alloc WZ _ = W2
  rw [hW2] at hHeld2
  generalize hq : WZ.heap.size = q10
  have hBn : Blk W2 q10 48 (zrF) := by rw [← hW2, ← hq]; exact Blk.new _ _ _
  have hLn := hHeld.size
  rw [hq] at hLn
  have hB9' : Blk W2 q9 45 (zrV) := by rw [← hW2]; exact hB9.alloc _
  have hN9' := hB9.lt
  rw [hq] at hN9'
  have hVM' : VM W2 ⟨0, 3, p, [A.dig], [hA]⟩ xa 1 xc ya 1 yc := by rw [← hW2]; exact hVM.below ((Below.refl _ WZ).alloc (Nat.le_refl _) _)
  have hSna : 0 < 1 → ∀ ad, xa = some ad → ad.block ≠ q10 := fun hp ad e => by have hz := hVM.ds.at_lt hp ad e; rw [hq] at hz; omega
  have hSnb : 0 < 1 → ∀ ad, ya = some ad → ad.block ≠ q10 := fun hp ad e => by have hz := hVM.hs.at_lt hp ad e; rw [hq] at hz; omega
  clear hW2 hq
  exact Ks2_9_10_R9 q9 q10 xa xc ya yc fa fc W2 (hHeld2) (hB9') (hL9) (hBn) (hLn) ((by omega)) (hVM') (hS9a) (hSna) (hS9b) (hSnb)
 case ks2_9_10_R9 =>
  intro q9 q10 xa xc ya yc fa fc WZ hHeld hB9 hL9 hB10 hL10 hN9_10 hVM hS9a hS10a hS9b hS10b
  refine Go.rd (rs := [11]) ?_
  refine AllReadyH.cons (o := ⟨none, .store 45 (.tmp 14) (.tmp 68), 0, "top32.go:66", #[⟨9, .data⟩, ⟨6, .data⟩, ⟨4, .chain⟩, ⟨0, .phase⟩, ⟨1, .phase⟩, ⟨2, .phase⟩, ⟨3, .phase⟩, ⟨4, .phase⟩, ⟨5, .phase⟩, ⟨6, .phase⟩, ⟨7, .textOnly .lateStores⟩, ⟨8, .textOnly .lateStores⟩, ⟨9, .phase⟩, ⟨10, .phase⟩], none⟩) rfl (fun K hK => ?_) AllReadyH.nil
  obtain ⟨W3, hQ⟩ := put_row (ty := 45) hB9 (x := [.int .i64 0, .int .i64 3, .int .i64 p, .slice xa 1 xc, .slice ya 1 yc]) (rfl) (sizeVw) (view_one _ _ _ _ _ _ _ _ _)
  have hHeld2 := below_grown hHeld hQ.grown hHeld.size hL9
  rw [if_pos (by rfl)]
  refine wp_store_mid 45 _ _ rfl q9 0 ([.int .i64 0, .int .i64 3, .int .i64 p, .slice xa 1 xc, .slice ya 1 yc] : List Value).toArray (by rfl) (by rfl) hQ.there hQ.info (by simpa using hQ.one) ?_
  generalize hWq : World.setCells _ _ _ _ = Wa
  obtain rfl : W3 = Wa := by rw [← hWq]; exact hQ.eq
  clear hWq
  refine hK.out _ _ hHeld2 (fun _ => ?_)
  clear hK K
  try simp only [Act.put]
  exact Ks3_9_10_R9 q9 q10 xa xc ya yc fa fc W3 (hHeld2) (hQ.blk) (hL9) (hB10.grown hQ.grown (fun e => by injection e with e; exact hN9_10 e.symm)) (hL10) (hN9_10) (hVM.grown hQ.grown hS9a hS9b) (hS9a) (hS10a) (hS9b) (hS10b)
 case ks3_9_10_R9 =>
  intro q9 q10 xa xc ya yc fa fc WZ hHeld hB9 hL9 hB10 hL10 hN9_10 hVM hS9a hS10a hS9b hS10b
  refine Go.rd (rs := [12]) ?_
  refine AllReadyH.cons (o := ⟨none, .store 48 (.tmp 15) (.tmp 69), 0, "top32.go:66", #[⟨10, .data⟩, ⟨7, .data⟩, ⟨11, .chain⟩, ⟨0, .phase⟩, ⟨1, .phase⟩, ⟨2, .phase⟩, ⟨3, .phase⟩, ⟨4, .phase⟩, ⟨5, .phase⟩, ⟨6, .phase⟩, ⟨7, .phase⟩, ⟨8, .textOnly .lateStores⟩, ⟨9, .phase⟩, ⟨10, .phase⟩, ⟨11, .phase⟩], none⟩) rfl (fun K hK => ?_) AllReadyH.nil
  obtain ⟨W3, hQ⟩ := put_row (ty := 48) hB10 (x := forkC zeroF fa 0 fc) (by rw [forkC_len okF0]; rfl) (by rw [forkC_len okF0]; exact sizeF) (forkC_one okF0 _ _ _)
  have hHeld2 := below_grown hHeld hQ.grown hHeld.size hL10
  rw [if_pos (by rfl)]
  refine wp_store_mid 48 _ _ rfl q10 0 (forkC zeroF fa 0 fc : List Value).toArray (by rfl) (by rfl) hQ.there hQ.info (by simpa using hQ.one) ?_
  generalize hWq : World.setCells _ _ _ _ = Wa
  obtain rfl : W3 = Wa := by rw [← hWq]; exact hQ.eq
  clear hWq
  refine hK.out _ _ hHeld2 (fun _ => ?_)
  clear hK K
  try simp only [Act.put]
  refine tkq (i := 13) (oi := ⟨some 16, .assign (.tmp 70), 37, "top32.go:66", #[⟨8, .data⟩, ⟨12, .chain⟩, ⟨0, .phase⟩, ⟨1, .phase⟩, ⟨2, .phase⟩, ⟨3, .phase⟩, ⟨4, .phase⟩, ⟨5, .phase⟩, ⟨6, .phase⟩, ⟨7, .phase⟩, ⟨8, .phase⟩, ⟨9, .phase⟩, ⟨10, .phase⟩, ⟨11, .phase⟩, ⟨12, .phase⟩], none⟩) rfl hHeld2 ?_
  refine wpAnyH_done (by kernel_rfl) ?_ _
  exact KfinR9 q9 q10 xa xc ya yc fa fc W3 (hHeld2) (hB9.grown hQ.grown (fun e => by injection e with e; exact hN9_10 e)) (hL9) (hQ.blk) (hL10) (hN9_10) (hVM.grown hQ.grown hS10a hS10b) (hS9a) (hS10a) (hS9b) (hS10b)
 case kfinR9 =>
 intro g9 g10 xa xc ya yc fa fc w7 hst hb9 _ hb10 _ _ hvm _ _ _ _
 replace hE4 := Lib.hid (hE4.out.below hst)
 replace hH4 := Lib.hid (hH4.out.below hst hH4.out.lt)
 replace hE5 := Lib.hid (hE5.out.below hst)
 replace hH5 := Lib.hid (hH5.out.below hst hH5.out.lt)
 replace hbw := Lib.hid (hbw.out.trans (hst.mono hbw.out.size))
 clear hst
 have hBV := Lib.hid hb9
 have hMV := Lib.hid hvm
 clear hb9 hb10 hvm hacc hgl hgr hgi
 go_upto_region 10 with fail
 have hacc : Hid (accV (newV 0 3 p) [B] hZ = (⟨0, 3, p, [B.dig], [hZ]⟩, zeroF, 0)) := Go.Vw.acc_new ⟨by decide, by decide⟩ ⟨by decide, by decide⟩ rfl enZ.out sZ'.out
 have hgl := hH5.out.lt
 have hgr := Lib.hid hH5.out.range
 have hgi := infoHd okZ
 refine share (G := ∀ (q9 : Nat) (q10 : Nat) (za : Option Addr) (zc : Nat) (ra : Option Addr) (rc : Nat) (ba : Option Addr) (bc : Nat) (WZ : World), (Below w7.heap.size w7 WZ) → (Blk WZ q9 45 ([.int .i64 0, .int .i64 3, .int .i64 p, .slice za 1 zc, .slice ra 1 rc])) → (w7.heap.size ≤ q9) → (Blk WZ q10 48 (forkC zeroF ba 0 bc)) → (w7.heap.size ≤ q10) → (q9 ≠ q10) → (VM WZ ⟨0, 3, p, [B.dig], [hZ]⟩ za 1 zc ra 1 rc) → (0 < 1 → ∀ ad, za = some ad → ad.block ≠ q9) → (0 < 1 → ∀ ad, za = some ad → ad.block ≠ q10) → (0 < 1 → ∀ ad, ra = some ad → ad.block ≠ q9) → (0 < 1 → ∀ ad, ra = some ad → ad.block ≠ q10) → (?GfinR10 : Nat → Nat → Option Addr → Nat → Option Addr → Nat → Option Addr → Nat → World → Prop) q9 q10 za zc ra rc ba bc WZ) ?hfinR10 ?kfinR10
 case' hfinR10 =>
  intro KfinR10
 case' hfinR10 =>
  refine share (G := ∀ (q9 : Nat) (q10 : Nat) (za : Option Addr) (zc : Nat) (ra : Option Addr) (rc : Nat) (ba : Option Addr) (bc : Nat) (WZ : World), (Below w7.heap.size w7 WZ) → (Blk WZ q9 45 ([.int .i64 0, .int .i64 3, .int .i64 p, .slice za 1 zc, .slice ra 1 rc])) → (w7.heap.size ≤ q9) → (Blk WZ q10 48 (zrF)) → (w7.heap.size ≤ q10) → (q9 ≠ q10) → (VM WZ ⟨0, 3, p, [B.dig], [hZ]⟩ za 1 zc ra 1 rc) → (0 < 1 → ∀ ad, za = some ad → ad.block ≠ q9) → (0 < 1 → ∀ ad, za = some ad → ad.block ≠ q10) → (0 < 1 → ∀ ad, ra = some ad → ad.block ≠ q9) → (0 < 1 → ∀ ad, ra = some ad → ad.block ≠ q10) → (?Gs3_9_10_R10 : Nat → Nat → Option Addr → Nat → Option Addr → Nat → Option Addr → Nat → World → Prop) q9 q10 za zc ra rc ba bc WZ) ?hs3_9_10_R10 ?ks3_9_10_R10
 case' hs3_9_10_R10 => intro Ks3_9_10_R10
 case' hs3_9_10_R10 =>
  refine share (G := ∀ (q9 : Nat) (q10 : Nat) (za : Option Addr) (zc : Nat) (ra : Option Addr) (rc : Nat) (ba : Option Addr) (bc : Nat) (WZ : World), (Below w7.heap.size w7 WZ) → (Blk WZ q9 45 (zrV)) → (w7.heap.size ≤ q9) → (Blk WZ q10 48 (zrF)) → (w7.heap.size ≤ q10) → (q9 ≠ q10) → (VM WZ ⟨0, 3, p, [B.dig], [hZ]⟩ za 1 zc ra 1 rc) → (0 < 1 → ∀ ad, za = some ad → ad.block ≠ q9) → (0 < 1 → ∀ ad, za = some ad → ad.block ≠ q10) → (0 < 1 → ∀ ad, ra = some ad → ad.block ≠ q9) → (0 < 1 → ∀ ad, ra = some ad → ad.block ≠ q10) → (?Gs2_9_10_R10 : Nat → Nat → Option Addr → Nat → Option Addr → Nat → Option Addr → Nat → World → Prop) q9 q10 za zc ra rc ba bc WZ) ?hs2_9_10_R10 ?ks2_9_10_R10
 case' hs2_9_10_R10 => intro Ks2_9_10_R10
 case' hs2_9_10_R10 =>
  refine share (G := ∀ (q9 : Nat) (za : Option Addr) (zc : Nat) (ra : Option Addr) (rc : Nat) (ba : Option Addr) (bc : Nat) (WZ : World), (Below w7.heap.size w7 WZ) → (Blk WZ q9 45 (zrV)) → (w7.heap.size ≤ q9) → (VM WZ ⟨0, 3, p, [B.dig], [hZ]⟩ za 1 zc ra 1 rc) → (0 < 1 → ∀ ad, za = some ad → ad.block ≠ q9) → (0 < 1 → ∀ ad, ra = some ad → ad.block ≠ q9) → (?Gs2_9_R10 : Nat → Option Addr → Nat → Option Addr → Nat → Option Addr → Nat → World → Prop) q9 za zc ra rc ba bc WZ) ?hs2_9_R10 ?ks2_9_R10
 case' hs2_9_R10 => intro Ks2_9_R10
 case' hs2_9_R10 =>
  refine share (G := ∀ (q10 : Nat) (za : Option Addr) (zc : Nat) (ra : Option Addr) (rc : Nat) (ba : Option Addr) (bc : Nat) (WZ : World), (Below w7.heap.size w7 WZ) → (Blk WZ q10 48 (zrF)) → (w7.heap.size ≤ q10) → (VM WZ ⟨0, 3, p, [B.dig], [hZ]⟩ za 1 zc ra 1 rc) → (0 < 1 → ∀ ad, za = some ad → ad.block ≠ q10) → (0 < 1 → ∀ ad, ra = some ad → ad.block ≠ q10) → (?Gs2_10_R10 : Nat → Option Addr → Nat → Option Addr → Nat → Option Addr → Nat → World → Prop) q10 za zc ra rc ba bc WZ) ?hs2_10_R10 ?ks2_10_R10
 case' hs2_10_R10 => intro Ks2_10_R10
 case' hs2_10_R10 =>
  refine share (G := ∀ (za : Option Addr) (zc : Nat) (ra : Option Addr) (rc : Nat) (ba : Option Addr) (bc : Nat) (WZ : World), (Below w7.heap.size w7 WZ) → (VM WZ ⟨0, 3, p, [B.dig], [hZ]⟩ za 1 zc ra 1 rc) → (?Gs2_R10 : Option Addr → Nat → Option Addr → Nat → Option Addr → Nat → World → Prop) za zc ra rc ba bc WZ) ?hs2_R10 ?ks2_R10
 case' hs2_R10 => intro Ks2_R10
 case' hs2_R10 =>
  refine share (G := ∀ (q9 : Nat) (q10 : Nat) (WZ : World), (Below w7.heap.size w7 WZ) → (Blk WZ q9 45 (zrV)) → (w7.heap.size ≤ q9) → (Blk WZ q10 48 (zrF)) → (w7.heap.size ≤ q10) → (q9 ≠ q10) → (?Gs1_9_10_R10 : Nat → Nat → World → Prop) q9 q10 WZ) ?hs1_9_10_R10 ?ks1_9_10_R10
 case' hs1_9_10_R10 => intro Ks1_9_10_R10
 case' hs1_9_10_R10 =>
  refine share (G := ∀ (q9 : Nat) (WZ : World), (Below w7.heap.size w7 WZ) → (Blk WZ q9 45 (zrV)) → (w7.heap.size ≤ q9) → (?Gs1_9_R10 : Nat → World → Prop) q9 WZ) ?hs1_9_R10 ?ks1_9_R10
 case' hs1_9_R10 => intro Ks1_9_R10
 case' hs1_9_R10 =>
  refine share (G := ∀ (q10 : Nat) (WZ : World), (Below w7.heap.size w7 WZ) → (Blk WZ q10 48 (zrF)) → (w7.heap.size ≤ q10) → (?Gs1_10_R10 : Nat → World → Prop) q10 WZ) ?hs1_10_R10 ?ks1_10_R10
 case' hs1_10_R10 => intro Ks1_10_R10
 case' hs1_10_R10 =>
  refine share (G := ∀ (WZ : World), (Below w7.heap.size w7 WZ) → (?Gs1_R10 : World → Prop) WZ) ?hs1_R10 ?ks1_R10
 case' hs1_R10 => intro Ks1_R10
 case' hs1_R10 =>
  refine share (G := ∀ (q9 : Nat) (q10 : Nat) (WZ : World), (Below w7.heap.size w7 WZ) → (Blk WZ q9 45 (zrV)) → (w7.heap.size ≤ q9) → (Blk WZ q10 48 (zrF)) → (w7.heap.size ≤ q10) → (q9 ≠ q10) → (?Gs0_9_10_R10 : Nat → Nat → World → Prop) q9 q10 WZ) ?hs0_9_10_R10 ?ks0_9_10_R10
 case' hs0_9_10_R10 => intro Ks0_9_10_R10
 case' hs0_9_10_R10 =>
  refine share (G := ∀ (q9 : Nat) (WZ : World), (Below w7.heap.size w7 WZ) → (Blk WZ q9 45 (zrV)) → (w7.heap.size ≤ q9) → (?Gs0_9_R10 : Nat → World → Prop) q9 WZ) ?hs0_9_R10 ?ks0_9_R10
 case' hs0_9_R10 => intro Ks0_9_R10
 case' hs0_9_R10 =>
  refine share (G := ∀ (q10 : Nat) (WZ : World), (Below w7.heap.size w7 WZ) → (Blk WZ q10 48 (zrF)) → (w7.heap.size ≤ q10) → (?Gs0_10_R10 : Nat → World → Prop) q10 WZ) ?hs0_10_R10 ?ks0_10_R10
 case' hs0_10_R10 => intro Ks0_10_R10
 case hs0_10_R10 =>
  refine wp_region_held_drew (S := fun wz => Below w7.heap.size w7 wz) (by kernel_rfl) ((Below.refl _ w7).drew) (fun hHeld => ?_)
  generalize w7.drew = WZ at *
  refine tkq (i := 0) (oi := ⟨some 72, .move (.tmp 12), 3, "top32.go:67", #[], none⟩) rfl hHeld ?_
  refine tkq (i := 2) (oi := ⟨some 74, .move (.tmp 9), 30, "top32.go:67", #[], none⟩) rfl hHeld ?_
  refine tk (i := 3) (oi := ⟨some 75, .load 36 (.tmp 10), 36, "top32.go:67", #[], none⟩) rfl (yieldsIf_load_mid (by rfl) _ _ rfl w5.heap.size 0 rfl (hdC hZ) _ (fun wz h => fun j v hv => (h.cell (p := ⟨w5.heap.size, _, none⟩) hgl).trans (hgr.out j v hv)) Tryz.underlying36 rfl (hgi.out)) hHeld ?_
  refine Go.rd (rs := [1, 9, 10]) ?_
  refine Go.rc (o := ⟨some 73, .call { callee := .value (.func 14), args := #[Operand.const (Value.int .i64 0), Operand.const (Value.int .i64 3), .tmp 72], argTypes := #[3, 3, 3] }, 45, "top32.go:67", #[⟨0, .data⟩], none⟩) rfl (fun K hK => ?_) (Go.rc (o := ⟨some 17, .alloc 45, 0, "top32.go:67", #[], none⟩) rfl (fun K hK => ?_) (Go.rc (o := ⟨some 18, .alloc 48, 0, "top32.go:67", #[], none⟩) rfl (fun K hK => ?_) Go.rn))
  case refine_1 =>
   go_simp
   go_at_call 14
   refine (viewNew_any 0 3 p _).mono ?_
   rintro e wq ⟨rfl, hst⟩


   refine hK.out _ _ (hHeld.trans (hst.mono hHeld.size)) (fun hHeld2 => ?_)
   clear hK K
   try simp only [Act.put, sA, s0, s1]
   exact Ks1_R10  wq (hHeld2)
  case refine_2 =>
   go_simp
   refine hK.out _ _ (hHeld.alloc hHeld.size _) (fun hHeld2 => ?_)
   clear hK K
   try simp only [Act.put, sA, s0, s1]
   generalize hW2 : World.alloc WZ _ = W2
   rw [hW2] at hHeld2
   generalize hq : WZ.heap.size = q9
   have hBn : Blk W2 q9 45 (zrV) := by rw [← hW2, ← hq]; exact Blk.new _ _ _
   have hLn := hHeld.size
   rw [hq] at hLn
   clear hW2 hq
   exact Ks0_9_R10 q9 W2 (hHeld2) (hBn) (hLn)
  case refine_3 =>
   go_simp
   refine hK.out _ _ (hHeld.alloc hHeld.size _) (fun hHeld2 => ?_)
   clear hK K
   try simp only [Act.put, sA, s0, s1]
   generalize hW2 : World.alloc WZ _ = W2
   rw [hW2] at hHeld2
   generalize hq : WZ.heap.size = q10
   have hBn : Blk W2 q10 48 (zrF) := by rw [← hW2, ← hq]; exact Blk.new _ _ _
   have hLn := hHeld.size
   rw [hq] at hLn
   clear hW2 hq
   exact Ks0_10_R10 q10 W2 (hHeld2) (hBn) (hLn)
 case ks0_10_R10 =>
  intro q10 WZ hHeld hB10 hL10
  refine Go.rd (rs := [1, 9]) ?_
  refine Go.rc (o := ⟨some 73, .call { callee := .value (.func 14), args := #[Operand.const (Value.int .i64 0), Operand.const (Value.int .i64 3), .tmp 72], argTypes := #[3, 3, 3] }, 45, "top32.go:67", #[⟨0, .data⟩], none⟩) rfl (fun K hK => ?_) (Go.rc (o := ⟨some 17, .alloc 45, 0, "top32.go:67", #[], none⟩) rfl (fun K hK => ?_) Go.rn)
  case refine_1 =>
   go_simp
   go_at_call 14
   refine (viewNew_any 0 3 p _).mono ?_
   rintro e wq ⟨rfl, hst⟩


   refine hK.out _ _ (hHeld.trans (hst.mono hHeld.size)) (fun hHeld2 => ?_)
   clear hK K
   try simp only [Act.put, sA, s0, s1]
   exact Ks1_10_R10 q10 wq (hHeld2) (hB10.below hst hB10.lt) (hL10)
  case refine_2 =>
   go_simp
   refine hK.out _ _ (hHeld.alloc hHeld.size _) (fun hHeld2 => ?_)
   clear hK K
   try simp only [Act.put, sA, s0, s1]
   generalize hW2 : World.alloc WZ _ = W2
   rw [hW2] at hHeld2
   generalize hq : WZ.heap.size = q9
   have hBn : Blk W2 q9 45 (zrV) := by rw [← hW2, ← hq]; exact Blk.new _ _ _
   have hLn := hHeld.size
   rw [hq] at hLn
   have hB10' : Blk W2 q10 48 (zrF) := by rw [← hW2]; exact hB10.alloc _
   have hN10' := hB10.lt
   rw [hq] at hN10'
   clear hW2 hq
   exact Ks0_9_10_R10 q9 q10 W2 (hHeld2) (hBn) (hLn) (hB10') (hL10) ((by omega))
 case ks0_9_R10 =>
  intro q9 WZ hHeld hB9 hL9
  refine Go.rd (rs := [1, 10]) ?_
  refine Go.rc (o := ⟨some 73, .call { callee := .value (.func 14), args := #[Operand.const (Value.int .i64 0), Operand.const (Value.int .i64 3), .tmp 72], argTypes := #[3, 3, 3] }, 45, "top32.go:67", #[⟨0, .data⟩], none⟩) rfl (fun K hK => ?_) (Go.rc (o := ⟨some 18, .alloc 48, 0, "top32.go:67", #[], none⟩) rfl (fun K hK => ?_) Go.rn)
  case refine_1 =>
   go_simp
   go_at_call 14
   refine (viewNew_any 0 3 p _).mono ?_
   rintro e wq ⟨rfl, hst⟩


   refine hK.out _ _ (hHeld.trans (hst.mono hHeld.size)) (fun hHeld2 => ?_)
   clear hK K
   try simp only [Act.put, sA, s0, s1]
   exact Ks1_9_R10 q9 wq (hHeld2) (hB9.below hst hB9.lt) (hL9)
  case refine_2 =>
   go_simp
   refine hK.out _ _ (hHeld.alloc hHeld.size _) (fun hHeld2 => ?_)
   clear hK K
   try simp only [Act.put, sA, s0, s1]
   generalize hW2 : World.alloc WZ _ = W2
   rw [hW2] at hHeld2
   generalize hq : WZ.heap.size = q10
   have hBn : Blk W2 q10 48 (zrF) := by rw [← hW2, ← hq]; exact Blk.new _ _ _
   have hLn := hHeld.size
   rw [hq] at hLn
   have hB9' : Blk W2 q9 45 (zrV) := by rw [← hW2]; exact hB9.alloc _
   have hN9' := hB9.lt
   rw [hq] at hN9'
   clear hW2 hq
   exact Ks0_9_10_R10 q9 q10 W2 (hHeld2) (hB9') (hL9) (hBn) (hLn) ((by omega))
 case ks0_9_10_R10 =>
  intro q9 q10 WZ hHeld hB9 hL9 hB10 hL10 hN9_10
  refine Go.rd (rs := [1]) ?_
  refine Go.rc (o := ⟨some 73, .call { callee := .value (.func 14), args := #[Operand.const (Value.int .i64 0), Operand.const (Value.int .i64 3), .tmp 72], argTypes := #[3, 3, 3] }, 45, "top32.go:67", #[⟨0, .data⟩], none⟩) rfl (fun K hK => ?_) Go.rn
  go_simp
  go_at_call 14
  refine (viewNew_any 0 3 p _).mono ?_
  rintro e wq ⟨rfl, hst⟩


  refine hK.out _ _ (hHeld.trans (hst.mono hHeld.size)) (fun hHeld2 => ?_)
  clear hK K
  try simp only [Act.put, sA, s0, s1]
  exact Ks1_9_10_R10 q9 q10 wq (hHeld2) (hB9.below hst hB9.lt) (hL9) (hB10.below hst hB10.lt) (hL10) (hN9_10)
 case ks1_R10 =>
  intro  WZ hHeld
  refine Go.rd (rs := [4, 9, 10]) ?_
  refine Go.rc (o := ⟨some 76, .call { callee := .value (.func 15), args := #[.tmp 73, .tmp 74, .tmp 75], argTypes := #[45, 30, 36] }, 49, "top32.go:67", #[⟨1, .data⟩, ⟨2, .data⟩, ⟨3, .data⟩, ⟨1, .chain⟩], none⟩) rfl (fun K hK => ?_) (Go.rc (o := ⟨some 17, .alloc 45, 0, "top32.go:67", #[], none⟩) rfl (fun K hK => ?_) (Go.rc (o := ⟨some 18, .alloc 48, 0, "top32.go:67", #[], none⟩) rfl (fun K hK => ?_) Go.rn))
  case refine_1 =>
   go_simp
   go_at_call 15
   have hac := accept_sep (newV 0 3 p) none 0 0 none 0 0 vb 1 vd [B] hZ okZ _ (HT'.out.below (hbw.out.trans (hHeld.mono hbw.out.size))) (vmN1 ⟨by decide, by decide⟩ ⟨by decide, by decide⟩ hpb.out _) (hE5.out.below hHeld) (by decide)
   rw [hacc.out] at hac
   refine hac.mono ?_
   rintro e wq ⟨za, xn, zc, ra, yn, rc, ba, fn, bc, rfl, hVM, _, hDf, _, hst, hF1, hF2, _⟩
   obtain rfl : xn = 1 := hVM.ds.len.symm
   obtain rfl : yn = 1 := hVM.hs.rs.len.symm
   obtain rfl : fn = 0 := hDf.len.symm

   refine hK.out _ _ (hHeld.trans (hst.mono hHeld.size)) (fun hHeld2 => ?_)
   clear hK K
   refine tkq (i := 5) (oi := ⟨some 71, .move (.tmp 76), 49, "top32.go:67", #[⟨4, .data⟩], none⟩) rfl hHeld2 ?_
   refine tkq (i := 6) (oi := ⟨some 77, .extract (.tmp 71) 0, 45, "top32.go:67", #[⟨5, .data⟩], none⟩) rfl hHeld2 ?_
   refine tkq (i := 7) (oi := ⟨some 78, .extract (.tmp 71) 1, 48, "top32.go:67", #[⟨5, .data⟩, ⟨11, .gcOnly .lateStores⟩], none⟩) rfl hHeld2 ?_
   refine tkq (i := 8) (oi := ⟨some 79, .extract (.tmp 71) 2, 37, "top32.go:67", #[⟨5, .data⟩, ⟨12, .gcOnly .lateStores⟩], none⟩) rfl hHeld2 ?_
   exact Ks2_R10 za zc ra rc ba bc wq (hHeld2) (hVM)
  case refine_2 =>
   go_simp
   refine hK.out _ _ (hHeld.alloc hHeld.size _) (fun hHeld2 => ?_)
   clear hK K
   try simp only [Act.put, sA, s0, s1]
   generalize hW2 : World.alloc WZ _ = W2
   rw [hW2] at hHeld2
   generalize hq : WZ.heap.size = q9
   have hBn : Blk W2 q9 45 (zrV) := by rw [← hW2, ← hq]; exact Blk.new _ _ _
   have hLn := hHeld.size
   rw [hq] at hLn
   clear hW2 hq
   exact Ks1_9_R10 q9 W2 (hHeld2) (hBn) (hLn)
  case refine_3 =>
   go_simp
   refine hK.out _ _ (hHeld.alloc hHeld.size _) (fun hHeld2 => ?_)
   clear hK K
   try simp only [Act.put, sA, s0, s1]
   generalize hW2 : World.alloc WZ _ = W2
   rw [hW2] at hHeld2
   generalize hq : WZ.heap.size = q10
   have hBn : Blk W2 q10 48 (zrF) := by rw [← hW2, ← hq]; exact Blk.new _ _ _
   have hLn := hHeld.size
   rw [hq] at hLn
   clear hW2 hq
   exact Ks1_10_R10 q10 W2 (hHeld2) (hBn) (hLn)
 case ks1_10_R10 =>
  intro q10 WZ hHeld hB10 hL10
  refine Go.rd (rs := [4, 9]) ?_
  refine Go.rc (o := ⟨some 76, .call { callee := .value (.func 15), args := #[.tmp 73, .tmp 74, .tmp 75], argTypes := #[45, 30, 36] }, 49, "top32.go:67", #[⟨1, .data⟩, ⟨2, .data⟩, ⟨3, .data⟩, ⟨1, .chain⟩], none⟩) rfl (fun K hK => ?_) (Go.rc (o := ⟨some 17, .alloc 45, 0, "top32.go:67", #[], none⟩) rfl (fun K hK => ?_) Go.rn)
  case refine_1 =>
   go_simp
   go_at_call 15
   have hac := accept_sep (newV 0 3 p) none 0 0 none 0 0 vb 1 vd [B] hZ okZ _ (HT'.out.below (hbw.out.trans (hHeld.mono hbw.out.size))) (vmN1 ⟨by decide, by decide⟩ ⟨by decide, by decide⟩ hpb.out _) (hE5.out.below hHeld) (by decide)
   rw [hacc.out] at hac
   refine hac.mono ?_
   rintro e wq ⟨za, xn, zc, ra, yn, rc, ba, fn, bc, rfl, hVM, _, hDf, _, hst, hF1, hF2, _⟩
   obtain rfl : xn = 1 := hVM.ds.len.symm
   obtain rfl : yn = 1 := hVM.hs.rs.len.symm
   obtain rfl : fn = 0 := hDf.len.symm
   have hS10a' : 0 < 1 → ∀ ad, za = some ad → ad.block ≠ q10 := fun hp ad e => by
    rcases hF1 hp ad e with hz | hz
    · have := hB10.lt; omega
    · cases hz
   have hS10b' : 0 < 1 → ∀ ad, ra = some ad → ad.block ≠ q10 := fun hp ad e => by
    rcases hF2 hp ad e with hz | hz
    · have := hB10.lt; omega
    · cases hz
   refine hK.out _ _ (hHeld.trans (hst.mono hHeld.size)) (fun hHeld2 => ?_)
   clear hK K
   refine tkq (i := 5) (oi := ⟨some 71, .move (.tmp 76), 49, "top32.go:67", #[⟨4, .data⟩], none⟩) rfl hHeld2 ?_
   refine tkq (i := 6) (oi := ⟨some 77, .extract (.tmp 71) 0, 45, "top32.go:67", #[⟨5, .data⟩], none⟩) rfl hHeld2 ?_
   refine tkq (i := 7) (oi := ⟨some 78, .extract (.tmp 71) 1, 48, "top32.go:67", #[⟨5, .data⟩, ⟨11, .gcOnly .lateStores⟩], none⟩) rfl hHeld2 ?_
   refine tkq (i := 8) (oi := ⟨some 79, .extract (.tmp 71) 2, 37, "top32.go:67", #[⟨5, .data⟩, ⟨12, .gcOnly .lateStores⟩], none⟩) rfl hHeld2 ?_
   exact Ks2_10_R10 q10 za zc ra rc ba bc wq (hHeld2) (hB10.below hst hB10.lt) (hL10) (hVM) (hS10a') (hS10b')
  case refine_2 =>
   go_simp
   refine hK.out _ _ (hHeld.alloc hHeld.size _) (fun hHeld2 => ?_)
   clear hK K
   try simp only [Act.put, sA, s0, s1]
   generalize hW2 : World.alloc WZ _ = W2
   rw [hW2] at hHeld2
   generalize hq : WZ.heap.size = q9
   have hBn : Blk W2 q9 45 (zrV) := by rw [← hW2, ← hq]; exact Blk.new _ _ _
   have hLn := hHeld.size
   rw [hq] at hLn
   have hB10' : Blk W2 q10 48 (zrF) := by rw [← hW2]; exact hB10.alloc _
   have hN10' := hB10.lt
   rw [hq] at hN10'
   clear hW2 hq
   exact Ks1_9_10_R10 q9 q10 W2 (hHeld2) (hBn) (hLn) (hB10') (hL10) ((by omega))
 case ks1_9_R10 =>
  intro q9 WZ hHeld hB9 hL9
  refine Go.rd (rs := [4, 10]) ?_
  refine Go.rc (o := ⟨some 76, .call { callee := .value (.func 15), args := #[.tmp 73, .tmp 74, .tmp 75], argTypes := #[45, 30, 36] }, 49, "top32.go:67", #[⟨1, .data⟩, ⟨2, .data⟩, ⟨3, .data⟩, ⟨1, .chain⟩], none⟩) rfl (fun K hK => ?_) (Go.rc (o := ⟨some 18, .alloc 48, 0, "top32.go:67", #[], none⟩) rfl (fun K hK => ?_) Go.rn)
  case refine_1 =>
   go_simp
   go_at_call 15
   have hac := accept_sep (newV 0 3 p) none 0 0 none 0 0 vb 1 vd [B] hZ okZ _ (HT'.out.below (hbw.out.trans (hHeld.mono hbw.out.size))) (vmN1 ⟨by decide, by decide⟩ ⟨by decide, by decide⟩ hpb.out _) (hE5.out.below hHeld) (by decide)
   rw [hacc.out] at hac
   refine hac.mono ?_
   rintro e wq ⟨za, xn, zc, ra, yn, rc, ba, fn, bc, rfl, hVM, _, hDf, _, hst, hF1, hF2, _⟩
   obtain rfl : xn = 1 := hVM.ds.len.symm
   obtain rfl : yn = 1 := hVM.hs.rs.len.symm
   obtain rfl : fn = 0 := hDf.len.symm
   have hS9a' : 0 < 1 → ∀ ad, za = some ad → ad.block ≠ q9 := fun hp ad e => by
    rcases hF1 hp ad e with hz | hz
    · have := hB9.lt; omega
    · cases hz
   have hS9b' : 0 < 1 → ∀ ad, ra = some ad → ad.block ≠ q9 := fun hp ad e => by
    rcases hF2 hp ad e with hz | hz
    · have := hB9.lt; omega
    · cases hz
   refine hK.out _ _ (hHeld.trans (hst.mono hHeld.size)) (fun hHeld2 => ?_)
   clear hK K
   refine tkq (i := 5) (oi := ⟨some 71, .move (.tmp 76), 49, "top32.go:67", #[⟨4, .data⟩], none⟩) rfl hHeld2 ?_
   refine tkq (i := 6) (oi := ⟨some 77, .extract (.tmp 71) 0, 45, "top32.go:67", #[⟨5, .data⟩], none⟩) rfl hHeld2 ?_
   refine tkq (i := 7) (oi := ⟨some 78, .extract (.tmp 71) 1, 48, "top32.go:67", #[⟨5, .data⟩, ⟨11, .gcOnly .lateStores⟩], none⟩) rfl hHeld2 ?_
   refine tkq (i := 8) (oi := ⟨some 79, .extract (.tmp 71) 2, 37, "top32.go:67", #[⟨5, .data⟩, ⟨12, .gcOnly .lateStores⟩], none⟩) rfl hHeld2 ?_
   exact Ks2_9_R10 q9 za zc ra rc ba bc wq (hHeld2) (hB9.below hst hB9.lt) (hL9) (hVM) (hS9a') (hS9b')
  case refine_2 =>
   go_simp
   refine hK.out _ _ (hHeld.alloc hHeld.size _) (fun hHeld2 => ?_)
   clear hK K
   try simp only [Act.put, sA, s0, s1]
   generalize hW2 : World.alloc WZ _ = W2
   rw [hW2] at hHeld2
   generalize hq : WZ.heap.size = q10
   have hBn : Blk W2 q10 48 (zrF) := by rw [← hW2, ← hq]; exact Blk.new _ _ _
   have hLn := hHeld.size
   rw [hq] at hLn
   have hB9' : Blk W2 q9 45 (zrV) := by rw [← hW2]; exact hB9.alloc _
   have hN9' := hB9.lt
   rw [hq] at hN9'
   clear hW2 hq
   exact Ks1_9_10_R10 q9 q10 W2 (hHeld2) (hB9') (hL9) (hBn) (hLn) ((by omega))
 case ks1_9_10_R10 =>
  intro q9 q10 WZ hHeld hB9 hL9 hB10 hL10 hN9_10
  refine Go.rd (rs := [4]) ?_
  refine Go.rc (o := ⟨some 76, .call { callee := .value (.func 15), args := #[.tmp 73, .tmp 74, .tmp 75], argTypes := #[45, 30, 36] }, 49, "top32.go:67", #[⟨1, .data⟩, ⟨2, .data⟩, ⟨3, .data⟩, ⟨1, .chain⟩], none⟩) rfl (fun K hK => ?_) Go.rn
  go_simp
  go_at_call 15
  have hac := accept_sep (newV 0 3 p) none 0 0 none 0 0 vb 1 vd [B] hZ okZ _ (HT'.out.below (hbw.out.trans (hHeld.mono hbw.out.size))) (vmN1 ⟨by decide, by decide⟩ ⟨by decide, by decide⟩ hpb.out _) (hE5.out.below hHeld) (by decide)
  rw [hacc.out] at hac
  refine hac.mono ?_
  rintro e wq ⟨za, xn, zc, ra, yn, rc, ba, fn, bc, rfl, hVM, _, hDf, _, hst, hF1, hF2, _⟩
  obtain rfl : xn = 1 := hVM.ds.len.symm
  obtain rfl : yn = 1 := hVM.hs.rs.len.symm
  obtain rfl : fn = 0 := hDf.len.symm
  have hS9a' : 0 < 1 → ∀ ad, za = some ad → ad.block ≠ q9 := fun hp ad e => by
   rcases hF1 hp ad e with hz | hz
   · have := hB9.lt; omega
   · cases hz
  have hS10a' : 0 < 1 → ∀ ad, za = some ad → ad.block ≠ q10 := fun hp ad e => by
   rcases hF1 hp ad e with hz | hz
   · have := hB10.lt; omega
   · cases hz
  have hS9b' : 0 < 1 → ∀ ad, ra = some ad → ad.block ≠ q9 := fun hp ad e => by
   rcases hF2 hp ad e with hz | hz
   · have := hB9.lt; omega
   · cases hz
  have hS10b' : 0 < 1 → ∀ ad, ra = some ad → ad.block ≠ q10 := fun hp ad e => by
   rcases hF2 hp ad e with hz | hz
   · have := hB10.lt; omega
   · cases hz
  refine hK.out _ _ (hHeld.trans (hst.mono hHeld.size)) (fun hHeld2 => ?_)
  clear hK K
  refine tkq (i := 5) (oi := ⟨some 71, .move (.tmp 76), 49, "top32.go:67", #[⟨4, .data⟩], none⟩) rfl hHeld2 ?_
  refine tkq (i := 6) (oi := ⟨some 77, .extract (.tmp 71) 0, 45, "top32.go:67", #[⟨5, .data⟩], none⟩) rfl hHeld2 ?_
  refine tkq (i := 7) (oi := ⟨some 78, .extract (.tmp 71) 1, 48, "top32.go:67", #[⟨5, .data⟩, ⟨11, .gcOnly .lateStores⟩], none⟩) rfl hHeld2 ?_
  refine tkq (i := 8) (oi := ⟨some 79, .extract (.tmp 71) 2, 37, "top32.go:67", #[⟨5, .data⟩, ⟨12, .gcOnly .lateStores⟩], none⟩) rfl hHeld2 ?_
  exact Ks2_9_10_R10 q9 q10 za zc ra rc ba bc wq (hHeld2) (hB9.below hst hB9.lt) (hL9) (hB10.below hst hB10.lt) (hL10) (hN9_10) (hVM) (hS9a') (hS10a') (hS9b') (hS10b')
 case ks2_R10 =>
  intro za zc ra rc ba bc WZ hHeld hVM
  refine Go.rd (rs := [9, 10]) ?_
  refine Go.rc (o := ⟨some 17, .alloc 45, 0, "top32.go:67", #[], none⟩) rfl (fun K hK => ?_) (Go.rc (o := ⟨some 18, .alloc 48, 0, "top32.go:67", #[], none⟩) rfl (fun K hK => ?_) Go.rn)
  case refine_1 =>
   go_simp
   refine hK.out _ _ (hHeld.alloc hHeld.size _) (fun hHeld2 => ?_)
   clear hK K
   try simp only [Act.put, sA, s0, s1]
   generalize hW2 : World.alloc WZ _ = W2
   rw [hW2] at hHeld2
   generalize hq : WZ.heap.size = q9
   have hBn : Blk W2 q9 45 (zrV) := by rw [← hW2, ← hq]; exact Blk.new _ _ _
   have hLn := hHeld.size
   rw [hq] at hLn
   have hVM' : VM W2 ⟨0, 3, p, [B.dig], [hZ]⟩ za 1 zc ra 1 rc := by rw [← hW2]; exact hVM.below ((Below.refl _ WZ).alloc (Nat.le_refl _) _)
   have hSna : 0 < 1 → ∀ ad, za = some ad → ad.block ≠ q9 := fun hp ad e => by have hz := hVM.ds.at_lt hp ad e; rw [hq] at hz; omega
   have hSnb : 0 < 1 → ∀ ad, ra = some ad → ad.block ≠ q9 := fun hp ad e => by have hz := hVM.hs.at_lt hp ad e; rw [hq] at hz; omega
   clear hW2 hq
   exact Ks2_9_R10 q9 za zc ra rc ba bc W2 (hHeld2) (hBn) (hLn) (hVM') (hSna) (hSnb)
  case refine_2 =>
   go_simp
   refine hK.out _ _ (hHeld.alloc hHeld.size _) (fun hHeld2 => ?_)
   clear hK K
   try simp only [Act.put, sA, s0, s1]
   generalize hW2 : World.alloc WZ _ = W2
   rw [hW2] at hHeld2
   generalize hq : WZ.heap.size = q10
   have hBn : Blk W2 q10 48 (zrF) := by rw [← hW2, ← hq]; exact Blk.new _ _ _
   have hLn := hHeld.size
   rw [hq] at hLn
   have hVM' : VM W2 ⟨0, 3, p, [B.dig], [hZ]⟩ za 1 zc ra 1 rc := by rw [← hW2]; exact hVM.below ((Below.refl _ WZ).alloc (Nat.le_refl _) _)
   have hSna : 0 < 1 → ∀ ad, za = some ad → ad.block ≠ q10 := fun hp ad e => by have hz := hVM.ds.at_lt hp ad e; rw [hq] at hz; omega
   have hSnb : 0 < 1 → ∀ ad, ra = some ad → ad.block ≠ q10 := fun hp ad e => by have hz := hVM.hs.at_lt hp ad e; rw [hq] at hz; omega
   clear hW2 hq
   exact Ks2_10_R10 q10 za zc ra rc ba bc W2 (hHeld2) (hBn) (hLn) (hVM') (hSna) (hSnb)
 case ks2_10_R10 =>
  intro q10 za zc ra rc ba bc WZ hHeld hB10 hL10 hVM hS10a hS10b
  refine Go.rd (rs := [9]) ?_
  refine Go.rc (o := ⟨some 17, .alloc 45, 0, "top32.go:67", #[], none⟩) rfl (fun K hK => ?_) Go.rn
  go_simp
  refine hK.out _ _ (hHeld.alloc hHeld.size _) (fun hHeld2 => ?_)
  clear hK K
  try simp only [Act.put, sA, s0, s1]
  generalize hW2 : World.alloc WZ _ = W2
  rw [hW2] at hHeld2
  generalize hq : WZ.heap.size = q9
  have hBn : Blk W2 q9 45 (zrV) := by rw [← hW2, ← hq]; exact Blk.new _ _ _
  have hLn := hHeld.size
  rw [hq] at hLn
  have hB10' : Blk W2 q10 48 (zrF) := by rw [← hW2]; exact hB10.alloc _
  have hN10' := hB10.lt
  rw [hq] at hN10'
  have hVM' : VM W2 ⟨0, 3, p, [B.dig], [hZ]⟩ za 1 zc ra 1 rc := by rw [← hW2]; exact hVM.below ((Below.refl _ WZ).alloc (Nat.le_refl _) _)
  have hSna : 0 < 1 → ∀ ad, za = some ad → ad.block ≠ q9 := fun hp ad e => by have hz := hVM.ds.at_lt hp ad e; rw [hq] at hz; omega
  have hSnb : 0 < 1 → ∀ ad, ra = some ad → ad.block ≠ q9 := fun hp ad e => by have hz := hVM.hs.at_lt hp ad e; rw [hq] at hz; omega
  clear hW2 hq
  exact Ks2_9_10_R10 q9 q10 za zc ra rc ba bc W2 (hHeld2) (hBn) (hLn) (hB10') (hL10) ((by omega)) (hVM') (hSna) (hS10a) (hSnb) (hS10b)
 case ks2_9_R10 =>
  intro q9 za zc ra rc ba bc WZ hHeld hB9 hL9 hVM hS9a hS9b
  refine Go.rd (rs := [10]) ?_
  refine Go.rc (o := ⟨some 18, .alloc 48, 0, "top32.go:67", #[], none⟩) rfl (fun K hK => ?_) Go.rn
  go_simp
  refine hK.out _ _ (hHeld.alloc hHeld.size _) (fun hHeld2 => ?_)
  clear hK K
  try simp only [Act.put, sA, s0, s1]
  generalize hW2 : World.alloc WZ _ = W2
  rw [hW2] at hHeld2
  generalize hq : WZ.heap.size = q10
  have hBn : Blk W2 q10 48 (zrF) := by rw [← hW2, ← hq]; exact Blk.new _ _ _
  have hLn := hHeld.size
  rw [hq] at hLn
  have hB9' : Blk W2 q9 45 (zrV) := by rw [← hW2]; exact hB9.alloc _
  have hN9' := hB9.lt
  rw [hq] at hN9'
  have hVM' : VM W2 ⟨0, 3, p, [B.dig], [hZ]⟩ za 1 zc ra 1 rc := by rw [← hW2]; exact hVM.below ((Below.refl _ WZ).alloc (Nat.le_refl _) _)
  have hSna : 0 < 1 → ∀ ad, za = some ad → ad.block ≠ q10 := fun hp ad e => by have hz := hVM.ds.at_lt hp ad e; rw [hq] at hz; omega
  have hSnb : 0 < 1 → ∀ ad, ra = some ad → ad.block ≠ q10 := fun hp ad e => by have hz := hVM.hs.at_lt hp ad e; rw [hq] at hz; omega
  clear hW2 hq
  exact Ks2_9_10_R10 q9 q10 za zc ra rc ba bc W2 (hHeld2) (hB9') (hL9) (hBn) (hLn) ((by omega)) (hVM') (hS9a) (hSna) (hS9b) (hSnb)
 case ks2_9_10_R10 =>
  intro q9 q10 za zc ra rc ba bc WZ hHeld hB9 hL9 hB10 hL10 hN9_10 hVM hS9a hS10a hS9b hS10b
  refine Go.rd (rs := [11]) ?_
  refine AllReadyH.cons (o := ⟨none, .store 45 (.tmp 17) (.tmp 77), 0, "top32.go:67", #[⟨9, .data⟩, ⟨6, .data⟩, ⟨4, .chain⟩, ⟨0, .phase⟩, ⟨1, .phase⟩, ⟨2, .phase⟩, ⟨3, .phase⟩, ⟨4, .phase⟩, ⟨5, .phase⟩, ⟨6, .phase⟩, ⟨7, .textOnly .lateStores⟩, ⟨8, .textOnly .lateStores⟩, ⟨9, .phase⟩, ⟨10, .phase⟩], none⟩) rfl (fun K hK => ?_) AllReadyH.nil
  obtain ⟨W3, hQ⟩ := put_row (ty := 45) hB9 (x := [.int .i64 0, .int .i64 3, .int .i64 p, .slice za 1 zc, .slice ra 1 rc]) (rfl) (sizeVw) (view_one _ _ _ _ _ _ _ _ _)
  have hHeld2 := below_grown hHeld hQ.grown hHeld.size hL9
  rw [if_pos (by rfl)]
  refine wp_store_mid 45 _ _ rfl q9 0 ([.int .i64 0, .int .i64 3, .int .i64 p, .slice za 1 zc, .slice ra 1 rc] : List Value).toArray (by rfl) (by rfl) hQ.there hQ.info (by simpa using hQ.one) ?_
  generalize hWq : World.setCells _ _ _ _ = Wa
  obtain rfl : W3 = Wa := by rw [← hWq]; exact hQ.eq
  clear hWq
  refine hK.out _ _ hHeld2 (fun _ => ?_)
  clear hK K
  try simp only [Act.put]
  exact Ks3_9_10_R10 q9 q10 za zc ra rc ba bc W3 (hHeld2) (hQ.blk) (hL9) (hB10.grown hQ.grown (fun e => by injection e with e; exact hN9_10 e.symm)) (hL10) (hN9_10) (hVM.grown hQ.grown hS9a hS9b) (hS9a) (hS10a) (hS9b) (hS10b)
 case ks3_9_10_R10 =>
  intro q9 q10 za zc ra rc ba bc WZ hHeld hB9 hL9 hB10 hL10 hN9_10 hVM hS9a hS10a hS9b hS10b
  refine Go.rd (rs := [12]) ?_
  refine AllReadyH.cons (o := ⟨none, .store 48 (.tmp 18) (.tmp 78), 0, "top32.go:67", #[⟨10, .data⟩, ⟨7, .data⟩, ⟨11, .chain⟩, ⟨0, .phase⟩, ⟨1, .phase⟩, ⟨2, .phase⟩, ⟨3, .phase⟩, ⟨4, .phase⟩, ⟨5, .phase⟩, ⟨6, .phase⟩, ⟨7, .phase⟩, ⟨8, .textOnly .lateStores⟩, ⟨9, .phase⟩, ⟨10, .phase⟩, ⟨11, .phase⟩], none⟩) rfl (fun K hK => ?_) AllReadyH.nil
  obtain ⟨W3, hQ⟩ := put_row (ty := 48) hB10 (x := forkC zeroF ba 0 bc) (by rw [forkC_len okF0]; rfl) (by rw [forkC_len okF0]; exact sizeF) (forkC_one okF0 _ _ _)
  have hHeld2 := below_grown hHeld hQ.grown hHeld.size hL10
  rw [if_pos (by rfl)]
  refine wp_store_mid 48 _ _ rfl q10 0 (forkC zeroF ba 0 bc : List Value).toArray (by rfl) (by rfl) hQ.there hQ.info (by simpa using hQ.one) ?_
  generalize hWq : World.setCells _ _ _ _ = Wa
  obtain rfl : W3 = Wa := by rw [← hWq]; exact hQ.eq
  clear hWq
  refine hK.out _ _ hHeld2 (fun _ => ?_)
  clear hK K
  try simp only [Act.put]
  refine tkq (i := 13) (oi := ⟨some 19, .assign (.tmp 79), 37, "top32.go:67", #[⟨8, .data⟩, ⟨12, .chain⟩, ⟨0, .phase⟩, ⟨1, .phase⟩, ⟨2, .phase⟩, ⟨3, .phase⟩, ⟨4, .phase⟩, ⟨5, .phase⟩, ⟨6, .phase⟩, ⟨7, .phase⟩, ⟨8, .phase⟩, ⟨9, .phase⟩, ⟨10, .phase⟩, ⟨11, .phase⟩, ⟨12, .phase⟩], none⟩) rfl hHeld2 ?_
  refine wpAnyH_done (by kernel_rfl) ?_ _
  exact KfinR10 q9 q10 za zc ra rc ba bc W3 (hHeld2) (hB9.grown hQ.grown (fun e => by injection e with e; exact hN9_10 e)) (hL9) (hQ.blk) (hL10) (hN9_10) (hVM.grown hQ.grown hS10a hS10b) (hS9a) (hS10a) (hS9b) (hS10b)
 case kfinR10 =>
 intro g19 g20 za zc ra rc ba bc w8 hst hb19 _ hb20 _ _ hvm _ _ _ _
 replace hE4 := Lib.hid (hE4.out.below hst)
 replace hH4 := Lib.hid (hH4.out.below hst hH4.out.lt)
 replace hE5 := Lib.hid (hE5.out.below hst)
 replace hH5 := Lib.hid (hH5.out.below hst hH5.out.lt)
 replace hBV := Lib.hid (hBV.out.below hst hBV.out.lt)
 replace hMV := Lib.hid (hMV.out.below hst)
 replace hbw := Lib.hid (hbw.out.trans (hst.mono hbw.out.size))
 clear hst
 have hBW := Lib.hid hb19
 have hMW := Lib.hid hvm
 clear hb19 hb20 hvm hacc hgl hgr hgi
 have hcA := Lib.hid (fun W hT h1 h2 => compare_any (⟨0, 3, p, [A.dig], [hA]⟩ : Go.Vw.V) xa 1 xc ya 1 yc (⟨0, 3, p, [B.dig], [hZ]⟩ : Go.Vw.V) za 1 zc ra 1 rc W hT h1 h2)
 have hcB := Lib.hid (fun W hT h1 h2 => compare_any (⟨0, 3, p, [A.dig], [hA]⟩ : Go.Vw.V) xa 1 xc ya 1 yc (⟨0, 3, p, [A.dig], [hA]⟩ : Go.Vw.V) xa 1 xc ya 1 yc W hT h1 h2)
 have c1 := Lib.hid (Go.Vw.cmp_two (id := 0) (fo := 3) (pub := p) ⟨by decide, by decide⟩ ⟨by decide, by decide⟩ sA'.out sZ'.out)
 have c2 := Lib.hid (Go.Vw.cmp_two (id := 0) (fo := 3) (pub := p) ⟨by decide, by decide⟩ ⟨by decide, by decide⟩ sA'.out sA'.out)
 rw [hdf.out] at c1
 rw [Go.Vw.differ_self] at c2
 obtain ⟨C1, hC1⟩ : ∃ C, Hid (cmpV (⟨0, 3, p, [A.dig], [hA]⟩ : Go.Vw.V) (⟨0, 3, p, [B.dig], [hZ]⟩ : Go.Vw.V) = C) := ⟨_, rfl⟩
 obtain ⟨C2, hC2⟩ : ∃ C, Hid (cmpV (⟨0, 3, p, [A.dig], [hA]⟩ : Go.Vw.V) (⟨0, 3, p, [A.dig], [hA]⟩ : Go.Vw.V) = C) := ⟨_, rfl⟩
 rw [hC1.out] at hcA c1
 rw [hC2.out] at hcB c2
 clear hC1 hC2 hdf
 obtain ⟨f1, x1⟩ := C1
 obtain ⟨f2, x2⟩ := C2
 have c1' := c1.out
 have c2' := c2.out
 simp only [] at c1' c2'
 subst x1 x2
 clear c1 c2
 simp only [] at hcA hcB
 have a0 := hBV.out.at_ (i := 0) rfl
 have a1 := hBV.out.at_ (i := 1) rfl
 have a2 := hBV.out.at_ (i := 2) rfl
 have a3 := hBV.out.at_ (i := 3) rfl
 have a4 := hBV.out.at_ (i := 4) rfl
 have b0 := hBW.out.at_ (i := 0) rfl
 have b1 := hBW.out.at_ (i := 1) rfl
 have b2 := hBW.out.at_ (i := 2) rfl
 have b3 := hBW.out.at_ (i := 3) rfl
 have b4 := hBW.out.at_ (i := 4) rfl
 go_wp2_with fail
 refine (hcA.out _ (HT'.out.below hbw.out) hMV.out hMW.out).mono ?_
 rintro e w9 ⟨ua, un, uc, rfl, oku0, _, _, hst⟩
 simp only [] at oku0
 have oku := Lib.hid oku0
 clear hcA oku0 a0 a1 a2 a3 a4 b0 b1 b2 b3 b4
 replace hE4 := Lib.hid (hE4.out.below hst)
 replace hH4 := Lib.hid (hH4.out.below hst hH4.out.lt)
 replace hE5 := Lib.hid (hE5.out.below hst)
 replace hH5 := Lib.hid (hH5.out.below hst hH5.out.lt)
 replace hBV := Lib.hid (hBV.out.below hst hBV.out.lt)
 replace hMV := Lib.hid (hMV.out.below hst)
 replace hBW := Lib.hid (hBW.out.below hst hBW.out.lt)
 replace hMW := Lib.hid (hMW.out.below hst)
 replace hbw := Lib.hid (hbw.out.trans (hst.mono hbw.out.size))
 clear hst
 obtain ⟨v9, hP⟩ : ∃ V, Hid (PutR 48 (w9.alloc (.cells (zrF : List Value).toArray 48)) V w9.heap.size 48 (forkC f1 ua un uc)) := put_row (Blk.new w9 48 (zrF)) (by rw [forkC_len oku.out]; rfl) (by rw [forkC_len oku.out]; exact sizeF) (forkC_one oku.out _ _ _)
 have hst := below_grown ((Below.refl _ w9).alloc (Nat.le_refl _) _) hP.out.grown (by simp) (Nat.le_refl _)
 replace hE4 := Lib.hid (hE4.out.below hst)
 replace hH4 := Lib.hid (hH4.out.below hst hH4.out.lt)
 replace hE5 := Lib.hid (hE5.out.below hst)
 replace hH5 := Lib.hid (hH5.out.below hst hH5.out.lt)
 replace hBV := Lib.hid (hBV.out.below hst hBV.out.lt)
 replace hMV := Lib.hid (hMV.out.below hst)
 replace hBW := Lib.hid (hBW.out.below hst hBW.out.lt)
 replace hMW := Lib.hid (hMW.out.below hst)
 replace hbw := Lib.hid (hbw.out.trans (hst.mono hbw.out.size))
 clear hst
 have hBu := Lib.hid hP.out.blk
 clear hBu
 have a0 := hBV.out.at_ (i := 0) rfl
 have a1 := hBV.out.at_ (i := 1) rfl
 have a2 := hBV.out.at_ (i := 2) rfl
 have a3 := hBV.out.at_ (i := 3) rfl
 have a4 := hBV.out.at_ (i := 4) rfl
 go_wp2_with (first
  | (refine wpList_store_mid (by rfl) 48 (.tmp 20) (.tmp 84) (by rfl) w9.heap.size 0 ((forkC f1 ua un uc)).toArray (by rfl) (by rfl) hP.out.there hP.out.info (by simpa using hP.out.one) ?_
     generalize hWq : World.setCells _ _ _ _ = Wa
     obtain rfl : v9 = Wa := by rw [← hWq]; exact hP.out.eq
     clear hWq))
 clear hP
 refine (hcB.out _ (HT'.out.below hbw.out) hMV.out hMV.out).mono ?_
 rintro e w10 ⟨sa, sn, sc, rfl, oks0, _, _, hst⟩
 simp only [] at oks0
 have oks := Lib.hid oks0
 clear hcB oks0 a0 a1 a2 a3 a4
 replace hE4 := Lib.hid (hE4.out.below hst)
 replace hH4 := Lib.hid (hH4.out.below hst hH4.out.lt)
 replace hE5 := Lib.hid (hE5.out.below hst)
 replace hH5 := Lib.hid (hH5.out.below hst hH5.out.lt)
 replace hBV := Lib.hid (hBV.out.below hst hBV.out.lt)
 replace hMV := Lib.hid (hMV.out.below hst)
 replace hBW := Lib.hid (hBW.out.below hst hBW.out.lt)
 replace hMW := Lib.hid (hMW.out.below hst)
 replace hbw := Lib.hid (hbw.out.trans (hst.mono hbw.out.size))
 clear hst
 obtain ⟨v10, hP⟩ : ∃ V, Hid (PutR 48 (w10.alloc (.cells (zrF : List Value).toArray 48)) V w10.heap.size 48 (forkC f2 sa sn sc)) := put_row (Blk.new w10 48 (zrF)) (by rw [forkC_len oks.out]; rfl) (by rw [forkC_len oks.out]; exact sizeF) (forkC_one oks.out _ _ _)
 have hst := below_grown ((Below.refl _ w10).alloc (Nat.le_refl _) _) hP.out.grown (by simp) (Nat.le_refl _)
 replace hE4 := Lib.hid (hE4.out.below hst)
 replace hH4 := Lib.hid (hH4.out.below hst hH4.out.lt)
 replace hE5 := Lib.hid (hE5.out.below hst)
 replace hH5 := Lib.hid (hH5.out.below hst hH5.out.lt)
 replace hBV := Lib.hid (hBV.out.below hst hBV.out.lt)
 replace hMV := Lib.hid (hMV.out.below hst)
 replace hBW := Lib.hid (hBW.out.below hst hBW.out.lt)
 replace hMW := Lib.hid (hMW.out.below hst)
 replace hbw := Lib.hid (hbw.out.trans (hst.mono hbw.out.size))
 clear hst
 have hBs := Lib.hid hP.out.blk
 clear hBs
 have hf0 := Lib.hid (hfin.out _ hbw.out)
 go_wp2_with (first
  | (refine wpList_store_mid (by rfl) 48 (.tmp 22) (.tmp 90) (by rfl) w10.heap.size 0 ((forkC f2 sa sn sc)).toArray (by rfl) (by rfl) hP.out.there hP.out.info (by simpa using hP.out.one) ?_
     generalize hWq : World.setCells _ _ _ _ = Wa
     obtain rfl : v10 = Wa := by rw [← hWq]; exact hP.out.eq
     clear hWq))
 exact hf0.out
end Go.Proofs.YtiionehcmoginaaGreatDoor

