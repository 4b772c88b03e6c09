/- liar.shown liar.Show liar.same the laws of the liar, plainly: what is shown to whom; no program slices.EqualFunc of two lists of entries at liar.same liar.Honest -/
import Derived.Test.YtnonfdcbnkdmcaaGreatDoorAl
import Derived.Test.YtnonfdcbnkdmcaaGreatDoorLiA
namespace Go.Sto
def lies (dev : Int) : List Rul → List Ent → List Ent
 | [], l => l
 | r :: rs, l => lies dev rs (if r.dev = dev then lie r.kind r.n l else l)
structure BdL (m : Nat) (l : List Ent) : Prop where
 len : l.length ≤ 14 + m
 data : ∀ e ∈ l, e.data.length ≤ 9000 + m
theorem BdL.mono {m m' : Nat} {l : List Ent} (h : BdL m l) (hm : m ≤ m') : BdL m' l := ⟨Nat.le_trans h.len (by omega), fun e he => Nat.le_trans (h.data e he) (by omega)⟩
theorem BdL.sub {m m' : Nat} {l l' : List Ent} (h : BdL m l) (hm : m ≤ m') (hl : l'.length ≤ l.length + (m' - m)) (hs : ∀ e ∈ l', e ∈ l) : BdL m' l' := ⟨by have := h.len; omega, fun e he => Nat.le_trans (h.data e (hs e he)) (by omega)⟩
theorem lieAt_bd {m : Nat} {l : List Ent} (h : BdL m l) (k : Int) (i : Nat) : BdL (m + 1) (lieAt k l i) := by
 unfold lieAt
 split
 · exact h.mono (by omega)
 · rename_i e he
   have hm : e ∈ l := List.mem_of_getElem? he
   have hil := (List.getElem?_eq_some_iff.1 he).1
   split
   · refine h.sub (by omega) (by rw [List.length_append, List.length_take, List.length_drop]; omega) fun x hx => ?_
     rcases List.mem_append.1 hx with hx | hx
     · exact List.mem_of_mem_take hx
     · exact List.mem_of_mem_drop hx
   · split
     · refine h.sub (by omega) (by simp only [List.length_append, List.length_take, List.length_drop, List.length_singleton]; omega) fun x hx => ?_
       rcases List.mem_append.1 hx with hx | hx
       · rcases List.mem_append.1 hx with hx | hx
         · exact List.mem_of_mem_take hx
         · rw [List.mem_singleton] at hx; rw [hx]; exact hm
       · exact List.mem_of_mem_drop hx
     · split
       · split
         · exact h.mono (by omega)
         · rename_i f hf
           have hfm : f ∈ l := List.mem_of_getElem? hf
           refine h.sub (by omega) (by rw [List.length_set, List.length_set]; omega) fun x hx => ?_
           rcases List.mem_or_eq_of_mem_set hx with hx | rfl
           · rcases List.mem_or_eq_of_mem_set hx with hx | rfl
             · exact hx
             · exact hfm
           · exact hm
       · refine ⟨by rw [List.length_set]; have := h.len; omega, fun x hx => ?_⟩
         rcases List.mem_or_eq_of_mem_set hx with hx | rfl
         · exact Nat.le_trans (h.data x hx) (by omega)
         · show (e.data ++ [0]).length ≤ _
           have := h.data e hm
           rw [List.length_append, List.length_singleton]; omega
theorem lie_bd {m : Nat} {l : List Ent} (h : BdL m l) (k n : Int) : BdL (m + 1) (lie k n l) := by
 unfold lie
 split
 · exact h.sub (by omega) (by rw [List.length_take]; omega) fun _ hx => List.mem_of_mem_take hx
 · split
   · exact ⟨by simp, by simp⟩
   · split
     · exact lieAt_bd h _ _
     · exact h.mono (by omega)
theorem lies_bd (dev : Int) : ∀ (rs : List Rul) {m : Nat} {l : List Ent}, BdL m l → BdL (m + rs.length) (lies dev rs l)
 | [], _, _, h => h
 | r :: rs, m, l, h => by
  have h1 : BdL (m + 1) (if r.dev = dev then lie r.kind r.n l else l) := by
   split
   · exact lie_bd h _ _
   · exact h.mono (by omega)
  have h2 := lies_bd dev rs h1
  rw [List.length_cons, show m + (rs.length + 1) = m + 1 + rs.length by omega]
  exact h2
theorem lie_1 (n : Int) (l : List Ent) : lie 1 n l = l.take (max 0 ((l.length : Int) - n)).toNat := rfl
theorem lie_6 (n : Int) (l : List Ent) : lie 6 n l = [] := rfl
theorem lie_in {k n : Int} {l : List Ent} {i : Nat} (h1 : k ≠ 1) (h6 : k ≠ 6) (hn : n = i + 1) (hi : i < l.length) : lie k n l = lieAt k l i := by
 unfold lie
 rw [if_neg h1, if_neg h6, if_pos (by omega), show (n - 1).toNat = i by omega]
theorem lie_out {k n : Int} {l : List Ent} (h1 : k ≠ 1) (h6 : k ≠ 6) (hn : ¬ (1 ≤ n ∧ n ≤ l.length)) : lie k n l = l := by
 unfold lie
 rw [if_neg h1, if_neg h6, if_neg hn]
theorem lieAt_2 {l : List Ent} {i : Nat} {e : Ent} (h : l[i]? = some e) : lieAt 2 l i = l.take i ++ l.drop (i + 1) := by unfold lieAt; rw [h]; rfl
theorem lieAt_3 {l : List Ent} {i : Nat} {e : Ent} (h : l[i]? = some e) : lieAt 3 l i = l.take i ++ [e] ++ l.drop i := by unfold lieAt; rw [h]; rfl
theorem lieAt_4 {l : List Ent} {i : Nat} {e f : Ent} (h : l[i]? = some e) (h2 : l[i + 1]? = some f) : lieAt 4 l i = (l.set i f).set (i + 1) e := by unfold lieAt; rw [h]; show (match l[i + 1]? with | none => l | some f => (l.set i f).set (i + 1) e) = _; rw [h2]
theorem lieAt_4n {l : List Ent} {i : Nat} {e : Ent} (h : l[i]? = some e) (h2 : l[i + 1]? = none) : lieAt 4 l i = l := by unfold lieAt; rw [h]; show (match l[i + 1]? with | none => l | some f => (l.set i f).set (i + 1) e) = _; rw [h2]
theorem lieAt_5 {l : List Ent} {i : Nat} {e : Ent} (h : l[i]? = some e) : lieAt 5 l i = l.set i (forkE e) := by unfold lieAt; rw [h]; rfl
theorem lies_at {dev : Int} {rs : List Rul} {k : Nat} {x : Rul} {l F : List Ent} (h : lies dev (rs.drop k) l = F) (hx : rs[k]? = some x) : lies dev (rs.drop (k + 1)) (if x.dev = dev then lie x.kind x.n l else l) = F := by
 have hk := (List.getElem?_eq_some_iff.1 hx).1
 rw [List.drop_eq_getElem_cons hk, (List.getElem?_eq_some_iff.1 hx).2] at h
 exact h
def devB (d : Int) : Bool := decide (0 ≤ d ∧ d < 512)
def shownL (s : St) (rs : List Rul) (dev f : Int) : List Ent × List Ent × Int :=
 if chkL s rs = 0 then
  if devB dev then
   if (fetchS s f 1).2 = 0 then ((fetchS s f 1).1, lies dev rs (fetchS s f 1).1, 0) else ([], [], (fetchS s f 1).2)
  else ([], [], 1)
 else ([], [], chkL s rs)
end Go.Sto
namespace Go.Proofs.YtnonfdcbnkdmcaaGreatDoor
open Go.RowKit Go.Mem Go.Shelf
open Go.Sto (Ent St Rul forkE BdL)

theorem OwnL.base {B : Nat} {W : World} {v : Value} {l : List Ent} (h : OwnL B W v l) : ∀ b, v.ownBlock = some b → B ≤ b := by
 obtain ⟨rows, h1, h2⟩ := h
 intro b hb
 rcases h1.2 with ⟨e, _⟩ | ⟨g, cap, cur, e, hg, _⟩
 · rw [e] at hb; cases hb
 · rw [e] at hb
   cases hb
   exact hg
theorem OwnL.top {B : Nat} {W : World} {v : Value} {l : List Ent} (h : OwnL B W v l) : ∀ b, v.ownBlock = some b → b < W.heap.size := by
 obtain ⟨rows, h1, h2⟩ := h
 intro b hb
 rcases h1.2 with ⟨e, _⟩ | ⟨g, cap, cur, e, _, hg, _⟩
 · rw [e] at hb; cases hb
 · rw [e] at hb
   cases hb
   exact (Array.getElem?_eq_some_iff.1 hg).1
theorem OwnL.es {B : Nat} {W : World} {v : Value} {l : List Ent} (h : OwnL B W v l) (hl : l.length ≤ 100000) : ∃ a c, v = .slice a l.length c ∧ ES (fun _ => True) W a l.length c l := by
 obtain ⟨rows, h1, h2⟩ := h
 obtain ⟨a, c, rfl, hR, _⟩ := Sl.of_owns h1
 exact ⟨a, c, rfl, ⟨rfl, fun _ _ _ => trivial, rows, hR, h2.imp fun _ _ h => h.imp fun _ _ _ => trivial⟩, hl⟩

def CloP (D : Nat) (l : List Ent) (w : World) (e : Ending) (w' : World) : Prop := ∃ v, e = .returned v ∧ OwnL D w' v l ∧ (∀ b, v.ownBlock = some b → w.heap.size ≤ b) ∧ Below w.heap.size w w'
theorem ownsRow_mono {W : World} {B B' : Nat} {t : TypeId} {k n : Nat} {v : Value} {xs : List Value} (h : W.ownsRow B t k v n xs) (hB : B' ≤ B) : W.ownsRow B' t k v n xs := by
 obtain ⟨h1, h2⟩ := h
 refine ⟨h1, ?_⟩
 rcases h2 with h2 | ⟨g, cap, cur, e, hg, h4⟩
 · exact .inl h2
 · exact .inr ⟨g, cap, cur, e, Nat.le_trans hB hg, h4⟩
theorem cloneO_any {K : Nat → Prop} (D : Nat) (a : Option Addr) (n c : Nat) (l : List Ent) (w : World) (H : ES K w a n c l) (hK : ∀ b, K b → D ≤ b) (hD : D ≤ w.heap.size) :
 Calls Tryz.prog 78 #[.slice a n c] w (CloP D l w) := by
 obtain ⟨rows, hR, hO⟩ := H.rs.rows
 have hbd := H.bd
 have hlen := H.rs.len
 refine (cloneE_any a n c rows.flatten w hR (rows_one hO fun _ _ h => EV.one h) (by omega)).mono ?_
 rintro e w1 ⟨v, rfl, hown, hb⟩
 have hbase : ∀ b, v.ownBlock = some b → w.heap.size ≤ b := by
  intro b hb
  rcases hown.2 with ⟨e, _⟩ | ⟨g, cap, cur, e, hg, _⟩
  · rw [e] at hb; cases hb
  · rw [e] at hb; cases hb; exact hg
 refine ⟨v, rfl, ⟨rows, by rw [hlen]; exact ownsRow_mono hown hD, hO.imp fun x r h => ?_⟩, hbase, hb⟩
 obtain ⟨ok, a, n, c, q, hk⟩ := h
 exact ⟨ok, a, n, c, q, (BK.imp (K' := fun b => D ≤ b ∧ b < w.heap.size) hk (fun b h h2 => ⟨hK b h2, h⟩)).keep (.below hb) |>.imp fun b _ h => ⟨h.1, fun e => by have := hbase b e; omega⟩⟩

theorem neqF (f : Nat) (W : World) : (binOp BinOp.neq 124 (.func (.func f) #[] #[]) .nilFunc).run Tryz.prog W = .ok (.bool true) W := by kernel_rfl
theorem neqN (W : World) : (binOp BinOp.neq 124 .nilFunc .nilFunc).run Tryz.prog W = .ok (.bool false) W := by kernel_rfl
structure ShI (w : World) (B kb : Nat) (T : List Ent) (ta : Option Addr) (tc : Nat) (v : Value) (l : List Ent) (wr : World) : Prop where
 own : OwnL w.heap.size wr v l
 lo2 : ∀ b, v.ownBlock = some b → B ≤ b
 ne : v.ownBlock ≠ some kb
 blk : Blk wr kb 127 kndC
 tr : ES (fun b => w.heap.size ≤ b ∧ b < B) wr ta T.length tc T
 bw : Below w.heap.size w wr
 lo : w.heap.size ≤ B
 hi : B ≤ wr.heap.size
section
variable {w wr w2 : World} {B kb : Nat} {T l l' : List Ent} {ta : Option Addr} {tc : Nat} {v : Value}
theorem ShI.below (h : ShI w B kb T ta tc v l wr) (hb : Below wr.heap.size wr w2) : ShI w B kb T ta tc v l w2 :=
 ⟨h.own.kept hb, h.lo2, h.ne, h.blk.below hb h.blk.lt, h.tr.below hb, h.bw.trans (hb.mono h.bw.size), h.lo, Nat.le_trans h.hi hb.size⟩
theorem ShI.lie {e : Ending} (h : ShI w B kb T ta tc v l wr) (hp : LieP w.heap.size v l' wr e w2) : ∃ v', e = .returned v' ∧ ShI w B kb T ta tc v' l' w2 := by
 obtain ⟨v', rfl, ho, hg, hn⟩ := hp
 have hbs := h.lo2
 have hhi := h.hi
 refine ⟨v', rfl, ho, ?_, ?_, h.blk.grown hg (fun e => h.ne e.symm), h.tr.keep ⟨hg.size, fun b hb k => hg.block b hb (fun e => by have := hbs b e.symm; omega)⟩, h.bw.grown hg h.bw.size (fun k e => Nat.le_trans h.lo (hbs k e)), h.lo, Nat.le_trans h.hi hg.size⟩
 · rcases hn with e | e | ⟨x, e, hx⟩
   · rw [e]; exact hbs
   · rw [e]; exact fun b e => by cases e
   · rw [e]; intro b e2; injection e2 with e2; omega
 have hkl := h.blk.lt
 rcases hn with e | e | ⟨x, e, hx⟩
 · rw [e]; exact h.ne
 · rw [e]; exact fun e => by cases e
 · rw [e]; intro e2; injection e2 with e2; omega
end
def ShwPost (T L : List Ent) (q : Int) (w : World) (e : Ending) (w' : World) : Prop :=
 ∃ ta tc v B, e = .returned (.tuple #[.slice ta T.length tc, v, .int .i64 q]) ∧ ES (fun b => w.heap.size ≤ b ∧ b < B) w' ta T.length tc T ∧ OwnL w.heap.size w' v L ∧ (∀ b, v.ownBlock = some b → B ≤ b) ∧ w.heap.size ≤ B ∧ B ≤ w'.heap.size ∧ Below w.heap.size w w'
theorem ShwPost.err {q : Int} {w w' : World} (hb : Below w.heap.size w w') : ShwPost [] [] q w (.returned (.tuple #[.slice none 0 0, .slice none 0 0, .int .i64 q])) w' :=
 ⟨none, 0, .slice none 0 0, w.heap.size, rfl, ES.nil0 _ _, ownL_nil _ _, (fun b e => by cases e), Nat.le_refl _, hb.size, hb⟩
theorem ShI.post {w w2 : World} {B kb : Nat} {T l : List Ent} {ta : Option Addr} {tc : Nat} {v : Value} (h : ShI w B kb T ta tc v l w2) : ShwPost T l 0 w (.returned (.tuple #[.slice ta T.length tc, v, .int .i64 0])) w2 :=
 ⟨ta, tc, v, B, rfl, h.tr, h.own, h.lo2, h.lo, h.hi, h.bw⟩

section
variable {B : Nat} {v : Value} {l : List Ent} {w : World} {m : Nat} {nn : Int}
theorem lieC1 (ho : OwnL B w v l) (hb : BdL m l) (hm : m ≤ 64) (hn : 0 ≤ nn ∧ nn ≤ 65536) : Calls Tryz.prog 114 #[v, .int .i64 nn] w (LieP B v (Sto.lie 1 nn l) w) := by
 rw [Sto.lie_1]
 exact lie1_any B v l nn w ho (by have := hb.len; omega) hn
theorem lieC6 (ho : OwnL B w v l) : Calls Tryz.prog 115 #[v, .int .i64 nn] w (LieP B v (Sto.lie 6 nn l) w) := lie6_any B v l nn w ho
theorem lieC2 {i : Nat} (ho : OwnL B w v l) (hb : BdL m l) (hm : m ≤ 64) (hB : B ≤ w.heap.size) (hn : nn = i + 1) (hi : i < l.length) : Calls Tryz.prog 117 #[v, .int .i64 i] w (LieP B v (Sto.lie 2 nn l) w) := by
 rw [Sto.lie_in (by omega) (by omega) hn hi, Sto.lieAt_2 (List.getElem?_eq_getElem hi)]
 exact lie2_any B v l i w ho hi (by have := hb.len; omega) hB
theorem lieC3 {i : Nat} (ho : OwnL B w v l) (hb : BdL m l) (hm : m ≤ 64) (hB : B ≤ w.heap.size) (hn : nn = i + 1) (hi : i < l.length) : Calls Tryz.prog 119 #[v, .int .i64 i] w (LieP B v (Sto.lie 3 nn l) w) := by
 rw [Sto.lie_in (by omega) (by omega) hn hi, Sto.lieAt_3 (List.getElem?_eq_getElem hi)]
 have h1 := hb.len
 exact lie3_any B v l i _ w ho (List.getElem?_eq_getElem hi) (by omega) hB
theorem lieC4 {i : Nat} (ho : OwnL B w v l) (hb : BdL m l) (hm : m ≤ 64) (hn : nn = i + 1) (hi : i < l.length) : Calls Tryz.prog 121 #[v, .int .i64 i] w (LieP B v (Sto.lie 4 nn l) w) := by
 have h1 := hb.len
 rw [Sto.lie_in (by omega) (by omega) hn hi]
 by_cases h : i + 1 < l.length
 · rw [Sto.lieAt_4 (List.getElem?_eq_getElem hi) (List.getElem?_eq_getElem h)]
   exact lie4_any B v l i _ _ w ho (List.getElem?_eq_getElem hi) (List.getElem?_eq_getElem h) (by omega)
 · rw [Sto.lieAt_4n (List.getElem?_eq_getElem hi) (List.getElem?_eq_none (by omega))]
   exact lie4n_any B v l i w ho (by omega) (by omega)
theorem lieC5 {i : Nat} (HT : Tabs w) (ho : OwnL B w v l) (hb : BdL m l) (hm : m ≤ 64) (hn : nn = i + 1) (hi : i < l.length) : Calls Tryz.prog 122 #[v, .int .i64 i] w (LieP B v (Sto.lie 5 nn l) w) := by
 have h1 := hb.len
 have h2 := hb.data _ (List.getElem_mem hi)
 rw [Sto.lie_in (by omega) (by omega) hn hi, Sto.lieAt_5 (List.getElem?_eq_getElem hi)]
 exact lie5_any B v l i _ w HT ho (List.getElem?_eq_getElem hi) (by omega) (by omega)
end

set_option maxRecDepth 20000 in
set_option maxHeartbeats 4000000 in
theorem lshown_any (a : Option Addr) (n c : Nat) (s : St) (ra : Option Addr) (rn rc : Nat) (rs : List Rul) (dev f : Int) (w : World) (HT : Tabs w) (H : SV (fun _ => True) w a n c s) (HR : RuS w ra rn rc rs) (hbd : BdL 0 (Sto.ents s f)) :
 Calls Tryz.prog 37 #[.agg (liC s a n c ra rn rc).toArray, .int .i64 dev, .int .i64 f] w (ShwPost (Sto.shownL s rs dev f).1 (Sto.shownL s rs dev f).2.1 (Sto.shownL s rs dev f).2.2 w) := by
 have hlen := HR.len
 have hmx := RS.max HR
 have hle := RS.le HR
 have HT' := Lib.hid HT; have H' := Lib.hid H; have HR' := Lib.hid HR
 have hbd' := Lib.hid hbd
 clear HT H HR hbd
 obtain ⟨sb, hsb⟩ : ∃ sb, Hid (w.heap.size = sb) := ⟨_, rfl⟩
 have hB1 : Hid (Blk (w.alloc (.cells #[.int .i64 s.id, .int .i64 s.priv, .slice a n c, .slice ra rn rc] 27)) sb 27 (liC s a n c ra rn rc)) := by rw [← hsb.out]; exact Blk.new w _ (liC s a n c ra rn rc)
 have hb1 : Hid (Below w.heap.size w (w.alloc (.cells #[.int .i64 s.id, .int .i64 s.priv, .slice a n c, .slice ra rn rc] 27))) := (Below.refl _ w).alloc (Nat.le_refl _) _
 have hc := Lib.hid (fun W (hW : Below w.heap.size w W) => liCheck_any a n c s ra rn rc rs W (HT'.out.below hW) (H'.out.below hW) (HR'.out.below hW))
 have hft := Lib.hid (fun W (hW : Below w.heap.size w W) => Fetch_any a n c s f 1 ⟨by decide, by decide⟩ W (HT'.out.below hW) (H'.out.below hW))
 have n63 : (rn : Int) ≤ 9223372036854775807 := by omega
 unfold liC at *
 obtain ⟨X, hXX⟩ : ∃ X, Hid (X = ShwPost (Sto.shownL s rs dev f).1 (Sto.shownL s rs dev f).2.1 (Sto.shownL s rs dev f).2.2 w) := ⟨_, rfl⟩
 rw [← hXX.out]
 obtain ⟨q0, hq0⟩ : ∃ q0, Hid (Sto.chkL s rs = q0) := ⟨_, rfl⟩
 rw [hq0.out] at hc
 by_cases h0 : q0 = 0
 · subst h0
   have hrs : rs.all Sto.okRul = true ∧ rs.length ≤ 64 := by
    have := hq0.out
    unfold Sto.chkL Sto.chkR at this
    split at this
    · split at this
      · split at this
        · exact ⟨‹_›, ‹_›⟩
        · cases this
      · cases this
    · cases this
   have hok : Hid (∀ k x, rs[k]? = some x → Sto.okRul x = true) := fun k x h => List.all_eq_true.1 hrs.1 x (List.mem_of_getElem? h)
   have hr64 : rn ≤ 64 := by omega
   clear hrs
   obtain ⟨q1, hq1⟩ : ∃ q1, Hid ((Sto.fetchS s f 1).2 = q1) := ⟨_, rfl⟩
   obtain ⟨T, hT⟩ : ∃ T, Hid ((Sto.fetchS s f 1).1 = T) := ⟨_, rfl⟩
   rw [hq1.out, hT.out] at hft
   have hTb : Hid (BdL 0 T) := by
    rw [← hT.out]
    unfold Sto.fetchS
    split
    · split
      · show BdL 0 _
        simpa using hbd'.out
      · exact ⟨by simp, by simp⟩
    · exact ⟨by simp, by simp⟩
   clear hbd'
   by_cases h1 : 0 ≤ dev ∧ dev < 512
   · obtain ⟨h1a, h1b⟩ := h1
     have g1 : decide (dev < 0) = false := decide_eq_false (by omega)
     have g2 : decide (512 ≤ dev) = false := decide_eq_false (by omega)
     by_cases h2 : q1 = 0
     · subst h2
       have hfin : Hid (∀ B kb ta tc v W, ShI w B kb T ta tc v (Sto.lies dev rs T) W → X (.returned (.tuple #[.slice ta T.length tc, v, .int .i64 0])) W) := fun B kb ta tc v W h => by
        rw [hXX.out]
        have e : Sto.shownL s rs dev f = (T, Sto.lies dev rs T, 0) := by
         unfold Sto.shownL Sto.devB
         rw [if_pos hq0.out, decide_eq_true ⟨h1a, h1b⟩, if_pos hq1.out, hT.out]; rfl
        rw [e]
        exact h.post
       clear hXX hq0 hq1 hT
       obtain ⟨F, hF⟩ : ∃ F, Hid (Sto.lies dev rs T = F) := ⟨_, rfl⟩
       rw [hF.out] at hfin
       go_enter Tryz.func37, Tryz.ntmps37
       go_wp2_with fail
       rw [hsb.out]
       generalize World.alloc w _ = W1 at *
       have c0 := hB1.out.at_ (i := 0) rfl
       have c1 := hB1.out.at_ (i := 1) rfl
       have c2 := hB1.out.at_ (i := 2) rfl
       have c3 := hB1.out.at_ (i := 3) rfl
       go_wp2_with fail
       refine (hc.out _ hb1.out).mono ?_
       rintro e w2 ⟨rfl, hb2⟩
       have hB2 := Lib.hid (hB1.out.below hb2 hB1.out.lt)
       have hb3 := Lib.hid (hb1.out.trans (hb2.mono hb1.out.size))
       clear hb2 hb1 hB1 hc c0 c1 c2 c3
       have c0 := hB2.out.at_ (i := 0) rfl
       have c1 := hB2.out.at_ (i := 1) rfl
       have c2 := hB2.out.at_ (i := 2) rfl
       go_wp2_with fail
       refine (hft.out _ hb3.out).mono ?_
       rintro e w3 ⟨ta, tc, rfl, hes, hb4⟩
       have hB3 := Lib.hid (hB2.out.below hb4 hB2.out.lt)
       have hb5 := Lib.hid (hb3.out.trans (hb4.mono hb3.out.size))
       have hes' := Lib.hid (hes.imp (K' := fun b => w.heap.size ≤ b ∧ b < w3.heap.size) (fun b hb h => ⟨Nat.le_trans hb3.out.size h, hb⟩))
       clear hb4 hb3 hB2 hft c0 c1 c2 hes
       go_wp2_with fail
       refine (cloneO_any w.heap.size ta T.length tc T w3 hes'.out (fun b h => h.1) hb5.out.size).mono ?_
       rintro e w4 ⟨v, rfl, hown, hlo2, hb6⟩
       have hlo2' := Lib.hid hlo2
       clear hlo2
       have hB4 := Lib.hid (hB3.out.below hb6 hB3.out.lt)
       have hb7 := Lib.hid (hb5.out.trans (hb6.mono hb5.out.size))
       have hes2 := Lib.hid (hes'.out.below hb6)
       have hown' := Lib.hid hown
       have hsz := hb6.size
       have hbw3 := Lib.hid hb5.out
       clear hb6 hb5 hB3 hown hes'
       go_wp2_with fail
       refine (kinds_any w4).mono ?_
       rintro e w5 ⟨rfl, hb8⟩
       have hsz2 := hb8.size
       have hbb := Lib.hid hb8
       have hI : ShI w w3.heap.size w5.heap.size T ta tc v T (w5.alloc (.cells kndC.toArray 127)) := by
        have hb9 : Below w4.heap.size w4 (w5.alloc (.cells kndC.toArray 127)) := hb8.trans ((Below.refl _ w5).alloc hsz2 _)
        have hbs := hown'.out.base
        exact ⟨hown'.out.kept hb9, hlo2'.out, fun e => by have := hown'.out.top _ e; omega, Blk.new _ _ _, hes2.out.below hb9, hb7.out.trans (hb9.mono hb7.out.size), (by have := hown'.out; have := hbw3.out.size; omega), Nat.le_trans hsz hb9.size⟩
       have hI' := Lib.hid hI
       clear hI
       have d3 := hB4.out.below hb8 hB4.out.lt |>.alloc (.cells kndC.toArray 127) |>.at_ (i := 3) rfl
       have hR2 := Lib.hid (HR'.out.below (hb7.out.trans (hb8.mono hb7.out.size)))
       clear hb8 hbb hown' hes2 hB4
       have hsz6 : Below w5.heap.size w5 (w5.alloc (.cells kndC.toArray 127)) := (Below.refl _ w5).alloc (Nat.le_refl _) _
       have hR3 := Lib.hid (hR2.out.below hsz6)
       obtain ⟨W6, hW6⟩ : ∃ W6, Hid (w5.alloc (.cells kndC.toArray 127) = W6) := ⟨_, rfl⟩
       rw [hW6.out] at hI' d3 hR3
       obtain ⟨kb, hkb⟩ : ∃ kb, Hid (w5.heap.size = kb) := ⟨_, rfl⟩
       rw [hkb.out] at hI'
       clear hR2 hsz6
       unfold kndC
       go_upto_region 11 with fail
       rw [hkb.out]
       generalize hWq : w5.alloc _ = Wq
       obtain rfl : W6 = Wq := by rw [← hWq]; exact hW6.out.symm
       clear hWq hW6 hkb hsz hsz2
       generalize w3.heap.size = B at *
       go_wp2_with fail
       go_loopw [7, 40] (fun v i wr => ∃ (k : Nat) (l : List Ent) (vq : Value), k ≤ rn ∧ i = .int .i64 k ∧ vq = v ∧ Hid (ShI w B kb T ta tc vq l wr) ∧ Hid (Sto.lies dev (rs.drop k) l = F) ∧ Hid (BdL k l)) (fun _ i _ => rn - (intOf i).toNat)
       case atStart => exact ⟨0, T, v, Nat.zero_le _, rfl, rfl, hI', hF, hTb⟩
       case round =>
        obtain ⟨k, l, vq, hk, rfl, rfl, hI, hl, hbl⟩ := hrel
        clear d3 hI' hTb hF
        by_cases hlt : k < rn
        · have hkl : k < rs.length := by omega
          obtain ⟨x, hx⟩ : ∃ x, rs[k]? = some x := ⟨_, List.getElem?_eq_getElem hkl⟩
          have hxo := (Sto.okRul_iff x).1 (hok.out k x hx)
          obtain ⟨b, off, rfl, hbl2, e0, e1, e2⟩ := (HR'.out.below hI.out.bw).at hx
          have hnx := Lib.hid (Sto.lies_at hl.out hx)
          have k0 : (0 : Int) ≤ (k : Int) := by omega
          have k1 : (k : Int) < (rn : Int) := by omega
          have kw : IntKind.i64.wrap ((k : Int) + 1) = (k : Int) + 1 := IntWalk.i64_in _ (by omega)
          obtain ⟨dv, kd, nn⟩ := x
          simp only at e0 e1 e2 hxo hnx
          obtain ⟨-, -, hk1, hk6, hn0, hn6⟩ := hxo
          clear hl hx hok
          obtain ⟨W7, hW7⟩ : ∃ W7, Hid (W7 = wr.alloc (.cells #[.int .i64 dv, .int .i64 kd, .int .i64 nn] 73)) := ⟨_, rfl⟩
          have hI7 : Hid (ShI w B kb T ta tc vq l W7) := by rw [hW7.out]; exact hI.out.below ((Below.refl _ _).alloc (Nat.le_refl _) _)
          obtain ⟨rb, hrb⟩ : ∃ rb, Hid (wr.heap.size = rb) := ⟨_, rfl⟩
          have hR7 : Hid (Blk W7 rb 73 [.int .i64 dv, .int .i64 kd, .int .i64 nn]) := by rw [hW7.out, ← hrb.out]; exact Blk.new wr _ [.int .i64 dv, .int .i64 kd, .int .i64 nn]
          go_upto_region 14 with fail
          rw [hrb.out]
          generalize hWq : wr.alloc _ = Wq
          obtain rfl : W7 = Wq := by rw [← hWq]; exact hW7.out
          clear hWq hW7 hrb
          have c0 := hR7.out.at_ (i := 0) rfl
          by_cases hdv : dv = dev
          · subst hdv
            rw [if_pos rfl] at hnx
            have c1 := hR7.out.at_ (i := 1) rfl
            have c2 := hR7.out.at_ (i := 2) rfl
            have hbd2 := Lib.hid (Sto.lie_bd hbl.out kd nn)
            have hHT := Lib.hid (HT'.out.below hI7.out.bw)
            have hok6 : kd = 1 ∨ kd = 2 ∨ kd = 3 ∨ kd = 4 ∨ kd = 5 ∨ kd = 6 := by omega
            have hkk : k ≤ 64 := by omega
            have c2a : ∀ o, (W7.alloc o).cell? ⟨rb, 2, none⟩ = some (.int .i64 nn) := fun o => (hR7.out.alloc o).at_ (i := 2) rfl
            clear hk1 hk6
            have nF := neqF
            have nN := neqN
            rcases hok6 with rfl | rfl | rfl | rfl | rfl | rfl
            · have d0 := hI7.out.blk.at_ (i := 2) rfl
              have d1 := hI7.out.blk.at_ (i := 3) rfl
              have hI8 : Hid (ShI w B kb T ta tc vq l (W7.alloc (.cells #[.func (.func 114) #[] #[], .nilFunc] 126))) := hI7.out.below ((Below.refl _ _).alloc (Nat.le_refl _) _)
              go_wp2_with fail
              refine (lieC1 hI8.out.own hbl.out hkk ⟨hn0, hn6⟩).mono ?_
              rintro e w9 hp
              obtain ⟨v9, rfl, hI9⟩ := hI8.out.lie hp
              have hI9' := Lib.hid hI9
              clear hp hI9
              go_wp2_with fail
              go_roundw
              case rel => exact ⟨k + 1, _, v9, by omega, by go_num, rfl, hI9', hnx, hbd2⟩
              case measure => simp [intOf]; omega
            · have d0 := hI7.out.blk.at_ (i := 4) rfl
              have d1 := hI7.out.blk.at_ (i := 5) rfl
              have hI8 : Hid (ShI w B kb T ta tc vq l (W7.alloc (.cells #[.nilFunc, .func (.func 117) #[] #[]] 126))) := hI7.out.below ((Below.refl _ _).alloc (Nat.le_refl _) _)
              obtain ⟨a7, c7, rfl, hl7, hm7, _⟩ := hI7.out.own.take
              by_cases hin : 1 ≤ nn ∧ nn ≤ l.length
              · obtain ⟨i, hni⟩ : ∃ i : Nat, nn = i + 1 := ⟨(nn - 1).toNat, by omega⟩
                have hil : i < l.length := by omega
                have hni1 : IntKind.i64.wrap (nn - 1) = (i : Int) := by rw [IntWalk.i64_in _ (by omega)]; omega
                have g3 : decide (1 ≤ nn) = true := decide_eq_true hin.1
                have g4 : decide (nn ≤ (l.length : Int)) = true := decide_eq_true hin.2
                go_wp2_with fail
                refine (lieC2 hI8.out.own hbl.out hkk hI8.out.bw.size hni hil).mono ?_
                rintro e w9 hp
                obtain ⟨v9, rfl, hI9⟩ := hI8.out.lie hp
                have hI9' := Lib.hid hI9
                clear hp hI9
                go_wp2_with fail
                go_roundw
                case rel => exact ⟨k + 1, _, v9, by omega, by go_num, rfl, hI9', hnx, hbd2⟩
                case measure => simp [intOf]; omega
              · have hll : Hid (BdL (k + 1) l) := hbl.out.mono (by omega)
                rw [Sto.lie_out (by omega) (by omega) hin] at hnx
                by_cases hn1 : 1 ≤ nn
                · have g3 : decide (1 ≤ nn) = true := decide_eq_true hn1
                  have g4 : decide (nn ≤ (l.length : Int)) = false := decide_eq_false (by omega)
                  go_wp2_with fail
                  go_roundw
                  case rel => exact ⟨k + 1, l, _, by omega, by go_num, rfl, hI8, hnx, hll⟩
                  case measure => simp [intOf]; omega
                · have g3 : decide (1 ≤ nn) = false := decide_eq_false hn1
                  go_wp2_with fail
                  go_roundw
                  case rel => exact ⟨k + 1, l, _, by omega, by go_num, rfl, hI8, hnx, hll⟩
                  case measure => simp [intOf]; omega
            · have d0 := hI7.out.blk.at_ (i := 6) rfl
              have d1 := hI7.out.blk.at_ (i := 7) rfl
              have hI8 : Hid (ShI w B kb T ta tc vq l (W7.alloc (.cells #[.nilFunc, .func (.func 119) #[] #[]] 126))) := hI7.out.below ((Below.refl _ _).alloc (Nat.le_refl _) _)
              obtain ⟨a7, c7, rfl, hl7, hm7, _⟩ := hI7.out.own.take
              by_cases hin : 1 ≤ nn ∧ nn ≤ l.length
              · obtain ⟨i, hni⟩ : ∃ i : Nat, nn = i + 1 := ⟨(nn - 1).toNat, by omega⟩
                have hil : i < l.length := by omega
                have hni1 : IntKind.i64.wrap (nn - 1) = (i : Int) := by rw [IntWalk.i64_in _ (by omega)]; omega
                have g3 : decide (1 ≤ nn) = true := decide_eq_true hin.1
                have g4 : decide (nn ≤ (l.length : Int)) = true := decide_eq_true hin.2
                go_wp2_with fail
                refine (lieC3 hI8.out.own hbl.out hkk hI8.out.bw.size hni hil).mono ?_
                rintro e w9 hp
                obtain ⟨v9, rfl, hI9⟩ := hI8.out.lie hp
                have hI9' := Lib.hid hI9
                clear hp hI9
                go_wp2_with fail
                go_roundw
                case rel => exact ⟨k + 1, _, v9, by omega, by go_num, rfl, hI9', hnx, hbd2⟩
                case measure => simp [intOf]; omega
              · have hll : Hid (BdL (k + 1) l) := hbl.out.mono (by omega)
                rw [Sto.lie_out (by omega) (by omega) hin] at hnx
                by_cases hn1 : 1 ≤ nn
                · have g3 : decide (1 ≤ nn) = true := decide_eq_true hn1
                  have g4 : decide (nn ≤ (l.length : Int)) = false := decide_eq_false (by omega)
                  go_wp2_with fail
                  go_roundw
                  case rel => exact ⟨k + 1, l, _, by omega, by go_num, rfl, hI8, hnx, hll⟩
                  case measure => simp [intOf]; omega
                · have g3 : decide (1 ≤ nn) = false := decide_eq_false hn1
                  go_wp2_with fail
                  go_roundw
                  case rel => exact ⟨k + 1, l, _, by omega, by go_num, rfl, hI8, hnx, hll⟩
                  case measure => simp [intOf]; omega
            · have d0 := hI7.out.blk.at_ (i := 8) rfl
              have d1 := hI7.out.blk.at_ (i := 9) rfl
              have hI8 : Hid (ShI w B kb T ta tc vq l (W7.alloc (.cells #[.nilFunc, .func (.func 121) #[] #[]] 126))) := hI7.out.below ((Below.refl _ _).alloc (Nat.le_refl _) _)
              obtain ⟨a7, c7, rfl, hl7, hm7, _⟩ := hI7.out.own.take
              by_cases hin : 1 ≤ nn ∧ nn ≤ l.length
              · obtain ⟨i, hni⟩ : ∃ i : Nat, nn = i + 1 := ⟨(nn - 1).toNat, by omega⟩
                have hil : i < l.length := by omega
                have hni1 : IntKind.i64.wrap (nn - 1) = (i : Int) := by rw [IntWalk.i64_in _ (by omega)]; omega
                have g3 : decide (1 ≤ nn) = true := decide_eq_true hin.1
                have g4 : decide (nn ≤ (l.length : Int)) = true := decide_eq_true hin.2
                go_wp2_with fail
                refine (lieC4 hI8.out.own hbl.out hkk hni hil).mono ?_
                rintro e w9 hp
                obtain ⟨v9, rfl, hI9⟩ := hI8.out.lie hp
                have hI9' := Lib.hid hI9
                clear hp hI9
                go_wp2_with fail
                go_roundw
                case rel => exact ⟨k + 1, _, v9, by omega, by go_num, rfl, hI9', hnx, hbd2⟩
                case measure => simp [intOf]; omega
              · have hll : Hid (BdL (k + 1) l) := hbl.out.mono (by omega)
                rw [Sto.lie_out (by omega) (by omega) hin] at hnx
                by_cases hn1 : 1 ≤ nn
                · have g3 : decide (1 ≤ nn) = true := decide_eq_true hn1
                  have g4 : decide (nn ≤ (l.length : Int)) = false := decide_eq_false (by omega)
                  go_wp2_with fail
                  go_roundw
                  case rel => exact ⟨k + 1, l, _, by omega, by go_num, rfl, hI8, hnx, hll⟩
                  case measure => simp [intOf]; omega
                · have g3 : decide (1 ≤ nn) = false := decide_eq_false hn1
                  go_wp2_with fail
                  go_roundw
                  case rel => exact ⟨k + 1, l, _, by omega, by go_num, rfl, hI8, hnx, hll⟩
                  case measure => simp [intOf]; omega
            · have d0 := hI7.out.blk.at_ (i := 10) rfl
              have d1 := hI7.out.blk.at_ (i := 11) rfl
              have hI8 : Hid (ShI w B kb T ta tc vq l (W7.alloc (.cells #[.nilFunc, .func (.func 122) #[] #[]] 126))) := hI7.out.below ((Below.refl _ _).alloc (Nat.le_refl _) _)
              obtain ⟨a7, c7, rfl, hl7, hm7, _⟩ := hI7.out.own.take
              by_cases hin : 1 ≤ nn ∧ nn ≤ l.length
              · obtain ⟨i, hni⟩ : ∃ i : Nat, nn = i + 1 := ⟨(nn - 1).toNat, by omega⟩
                have hil : i < l.length := by omega
                have hni1 : IntKind.i64.wrap (nn - 1) = (i : Int) := by rw [IntWalk.i64_in _ (by omega)]; omega
                have g3 : decide (1 ≤ nn) = true := decide_eq_true hin.1
                have g4 : decide (nn ≤ (l.length : Int)) = true := decide_eq_true hin.2
                go_wp2_with fail
                refine (lieC5 (HT'.out.below hI8.out.bw) hI8.out.own hbl.out hkk hni hil).mono ?_
                rintro e w9 hp
                obtain ⟨v9, rfl, hI9⟩ := hI8.out.lie hp
                have hI9' := Lib.hid hI9
                clear hp hI9
                go_wp2_with fail
                go_roundw
                case rel => exact ⟨k + 1, _, v9, by omega, by go_num, rfl, hI9', hnx, hbd2⟩
                case measure => simp [intOf]; omega
              · have hll : Hid (BdL (k + 1) l) := hbl.out.mono (by omega)
                rw [Sto.lie_out (by omega) (by omega) hin] at hnx
                by_cases hn1 : 1 ≤ nn
                · have g3 : decide (1 ≤ nn) = true := decide_eq_true hn1
                  have g4 : decide (nn ≤ (l.length : Int)) = false := decide_eq_false (by omega)
                  go_wp2_with fail
                  go_roundw
                  case rel => exact ⟨k + 1, l, _, by omega, by go_num, rfl, hI8, hnx, hll⟩
                  case measure => simp [intOf]; omega
                · have g3 : decide (1 ≤ nn) = false := decide_eq_false hn1
                  go_wp2_with fail
                  go_roundw
                  case rel => exact ⟨k + 1, l, _, by omega, by go_num, rfl, hI8, hnx, hll⟩
                  case measure => simp [intOf]; omega
            · have d0 := hI7.out.blk.at_ (i := 12) rfl
              have d1 := hI7.out.blk.at_ (i := 13) rfl
              have hI8 : Hid (ShI w B kb T ta tc vq l (W7.alloc (.cells #[.func (.func 115) #[] #[], .nilFunc] 126))) := hI7.out.below ((Below.refl _ _).alloc (Nat.le_refl _) _)
              go_wp2_with fail
              refine (lieC6 hI8.out.own).mono ?_
              rintro e w9 hp
              obtain ⟨v9, rfl, hI9⟩ := hI8.out.lie hp
              have hI9' := Lib.hid hI9
              clear hp hI9
              go_wp2_with fail
              go_roundw
              case rel => exact ⟨k + 1, _, v9, by omega, by go_num, rfl, hI9', hnx, hbd2⟩
              case measure => simp [intOf]; omega
          · rw [if_neg hdv] at hnx
            have hbd2 : Hid (BdL (k + 1) l) := hbl.out.mono (by omega)
            go_wp2_with fail
            go_roundw
            case rel => exact ⟨k + 1, l, _, by omega, by go_num, rfl, hI7, hnx, hbd2⟩
            case measure => simp [intOf]; omega
        · have hkn : k = rn := by omega
          subst hkn
          have hlF : Hid (l = F) := by
           have := hl.out
           rw [List.drop_eq_nil_of_le (by omega)] at this
           exact this
          have hf2 : Hid (X (.returned (.tuple #[.slice ta T.length tc, vq, .int .i64 0])) wr) := hfin.out B kb ta tc vq wr (by rw [← hlF.out]; exact hI.out)
          go_wp2_with fail
          exact hf2.out
     · have hfin : Hid (∀ W, Below w.heap.size w W → X (.returned (.tuple #[.slice none 0 0, .slice none 0 0, .int .i64 q1])) W) := fun W h => by
        rw [hXX.out]
        have e : Sto.shownL s rs dev f = ([], [], q1) := by
         unfold Sto.shownL Sto.devB
         rw [if_pos hq0.out, decide_eq_true ⟨h1a, h1b⟩, if_pos (rfl : true = true), if_neg (by rw [hq1.out]; exact h2), hq1.out]
        rw [e]
        exact ShwPost.err h
       clear hXX hq0 hq1 hT
       go_enter Tryz.func37, Tryz.ntmps37
       go_wp2_with fail
       rw [hsb.out]
       generalize World.alloc w _ = W1 at *
       have c0 := hB1.out.at_ (i := 0) rfl
       have c1 := hB1.out.at_ (i := 1) rfl
       have c2 := hB1.out.at_ (i := 2) rfl
       have c3 := hB1.out.at_ (i := 3) rfl
       go_wp2_with fail
       refine (hc.out _ hb1.out).mono ?_
       rintro e w2 ⟨rfl, hb2⟩
       have hB2 := Lib.hid (hB1.out.below hb2 hB1.out.lt)
       have hb3 := Lib.hid (hb1.out.trans (hb2.mono hb1.out.size))
       clear hb2 hb1 hB1 hc c0 c1 c2 c3
       have c0 := hB2.out.at_ (i := 0) rfl
       have c1 := hB2.out.at_ (i := 1) rfl
       have c2 := hB2.out.at_ (i := 2) rfl
       go_wp2_with fail
       refine (hft.out _ hb3.out).mono ?_
       rintro e w3 ⟨ta, tc, rfl, hes, hb4⟩
       have hb5 := Lib.hid (hb3.out.trans (hb4.mono hb3.out.size))
       clear hb4 hb3 hB2 hft c0 c1 c2 hes
       go_wp2_with fail
       exact hfin.out _ hb5.out
   · have hfin : Hid (∀ W, Below w.heap.size w W → X (.returned (.tuple #[.slice none 0 0, .slice none 0 0, .int .i64 1])) W) := fun W h => by
      rw [hXX.out]
      have e : Sto.shownL s rs dev f = ([], [], 1) := by
       unfold Sto.shownL Sto.devB
       rw [if_pos hq0.out, decide_eq_false h1]; rfl
      rw [e]
      exact ShwPost.err h
     clear hXX hq0 hq1 hT
     by_cases g1 : dev < 0
     · have g1 : decide (dev < 0) = true := decide_eq_true g1
       go_enter Tryz.func37, Tryz.ntmps37
       go_wp2_with fail
       rw [hsb.out]
       generalize World.alloc w _ = W1 at *
       have c0 := hB1.out.at_ (i := 0) rfl
       have c1 := hB1.out.at_ (i := 1) rfl
       have c2 := hB1.out.at_ (i := 2) rfl
       have c3 := hB1.out.at_ (i := 3) rfl
       go_wp2_with fail
       refine (hc.out _ hb1.out).mono ?_
       rintro e w2 ⟨rfl, hb2⟩
       have hB2 := Lib.hid (hB1.out.below hb2 hB1.out.lt)
       have hb3 := Lib.hid (hb1.out.trans (hb2.mono hb1.out.size))
       clear hb2 hb1 hB1 hc c0 c1 c2 c3
       have c0 := hB2.out.at_ (i := 0) rfl
       have c1 := hB2.out.at_ (i := 1) rfl
       have c2 := hB2.out.at_ (i := 2) rfl
       go_wp2_with fail
       exact hfin.out _ hb3.out
     · have g2 : decide (512 ≤ dev) = true := decide_eq_true (by omega)
       have g1 : decide (dev < 0) = false := decide_eq_false g1
       go_enter Tryz.func37, Tryz.ntmps37
       go_wp2_with fail
       rw [hsb.out]
       generalize World.alloc w _ = W1 at *
       have c0 := hB1.out.at_ (i := 0) rfl
       have c1 := hB1.out.at_ (i := 1) rfl
       have c2 := hB1.out.at_ (i := 2) rfl
       have c3 := hB1.out.at_ (i := 3) rfl
       go_wp2_with fail
       refine (hc.out _ hb1.out).mono ?_
       rintro e w2 ⟨rfl, hb2⟩
       have hB2 := Lib.hid (hB1.out.below hb2 hB1.out.lt)
       have hb3 := Lib.hid (hb1.out.trans (hb2.mono hb1.out.size))
       clear hb2 hb1 hB1 hc c0 c1 c2 c3
       have c0 := hB2.out.at_ (i := 0) rfl
       have c1 := hB2.out.at_ (i := 1) rfl
       have c2 := hB2.out.at_ (i := 2) rfl
       go_wp2_with fail
       exact hfin.out _ hb3.out
 · have hfin : Hid (∀ W, Below w.heap.size w W → X (.returned (.tuple #[.slice none 0 0, .slice none 0 0, .int .i64 q0])) W) := fun W h => by
    rw [hXX.out]
    have e : Sto.shownL s rs dev f = ([], [], q0) := by
     unfold Sto.shownL
     rw [if_neg (by rw [hq0.out]; exact h0), hq0.out]
    rw [e]
    exact ShwPost.err h
   clear hXX hq0
   go_enter Tryz.func37, Tryz.ntmps37
   go_wp2_with fail
   rw [hsb.out]
   generalize World.alloc w _ = W1 at *
   have c0 := hB1.out.at_ (i := 0) rfl
   have c1 := hB1.out.at_ (i := 1) rfl
   have c2 := hB1.out.at_ (i := 2) rfl
   have c3 := hB1.out.at_ (i := 3) rfl
   go_wp2_with fail
   refine (hc.out _ hb1.out).mono ?_
   rintro e w2 ⟨rfl, hb2⟩
   have hB2 := Lib.hid (hB1.out.below hb2 hB1.out.lt)
   have hb3 := Lib.hid (hb1.out.trans (hb2.mono hb1.out.size))
   clear hb2 hb1 hB1 hc c0 c1 c2 c3
   have c0 := hB2.out.at_ (i := 0) rfl
   have c1 := hB2.out.at_ (i := 1) rfl
   have c2 := hB2.out.at_ (i := 2) rfl
   go_wp2_with fail
   exact hfin.out _ hb3.out
end Go.Proofs.YtnonfdcbnkdmcaaGreatDoor
namespace Go.Sto
def showL (s : St) (rs : List Rul) (dev f : Int) : List Ent × Int := if (shownL s rs dev f).2.2 = 0 then ((shownL s rs dev f).2.1, 0) else ([], (shownL s rs dev f).2.2)
theorem shownL_ok {s : St} {rs : List Rul} {dev f : Int} (h : (shownL s rs dev f).2.2 = 0) : chkL s rs = 0 ∧ devB dev = true ∧ (fetchS s f 1).2 = 0 ∧ shownL s rs dev f = ((fetchS s f 1).1, lies dev rs (fetchS s f 1).1, 0) := by
 unfold shownL at h ⊢
 split at h
 · split at h
   · split at h
     · rename_i h1 h2 h3
       exact ⟨h1, h2, h3, by rw [if_pos h1, if_pos h2, if_pos h3]⟩
     · exact absurd h (by assumption)
   · cases h
 · exact absurd h (by assumption)
theorem fetch_open {s : St} {f fr : Int} (h : (fetchS s f fr).2 = 0) : openE s f = 0 := by
 unfold fetchS at h
 split at h
 · assumption
 · exact h
theorem chkL_all {s : St} {rs : List Rul} (h : chkL s rs = 0) : chkS s = 0 ∧ rs.length ≤ 64 ∧ rs.all okRul = true := by
 unfold chkL chkR at h
 split at h
 · split at h
   · split at h
     · exact ⟨‹_›, ‹_›, ‹_›⟩
     · cases h
   · cases h
 · cases h
theorem fetch_bd {s : St} {f fr : Int} {m : Nat} (h : BdL m (ents s f)) : BdL m (fetchS s f fr).1 := by
 unfold fetchS
 split
 · split
   · exact h.sub (Nat.le_refl _) (by rw [List.length_drop]; omega) fun _ hx => List.mem_of_mem_drop hx
   · exact ⟨by simp, by simp⟩
 · exact ⟨by simp, by simp⟩
theorem shown_bd {s : St} {rs : List Rul} {dev f : Int} (h : BdL 0 (ents s f)) : BdL 64 (shownL s rs dev f).2.1 := by
 by_cases h0 : (shownL s rs dev f).2.2 = 0
 · obtain ⟨h1, _, _, h4⟩ := shownL_ok h0
   rw [h4]
   have := lies_bd dev rs (fetch_bd (fr := 1) h)
   exact this.mono (by have := (chkL_all h1).2.1; omega)
 · have : (shownL s rs dev f).2.1 = [] := by
    unfold shownL at h0 ⊢
    split
    · rename_i h1
      split
      · rename_i h2
        split
        · rename_i h3
          rw [if_pos h1, if_pos h2, if_pos h3] at h0
          exact absurd rfl h0
        · rfl
      · rfl
    · rfl
   rw [this]
   exact ⟨by simp, by simp⟩
end Go.Sto
namespace Go.Mem
open Go.RowKit
theorem results_tmp_cell_tmp {P : Program} {fn : Func} {p q u : Tmp} {ty : TypeId} (h : fn.results = #[.tmp p, .cell q ty, .tmp u]) (tmps : Array Value) (w : World) :
 (results fn tmps).run P w = ((asAddr (tmps.getD q undef)).run P w).andThen fun a w₁ => ((loadVar ty a).run P w₁).andThen fun x w₂ => .ok (.tuple #[tmps.getD p undef, x, tmps.getD u undef]) w₂ := by
 simp only [results, h]
 simp [Sem.run_bind, Result.andThen]
theorem ret_tmp_cell_tmp {P : Program} {fn : Func} {p q u : Tmp} {ty t : TypeId} (h : fn.results = #[.tmp p, .cell q ty, .tmp u]) {W : World} {g : Nat} {r : List Value} {d : TypeDesc} {v v2 : Value} (hB : Blk W g t r) (hu : P.underlying ty = some d) (hd : d.isRow = true) (hi : (P.info? ty).map (·.size) = some r.length)
 {a : Act} (hp : a.tmps.getD q undef = .pointer (some ⟨g, 0, none⟩)) (hq : a.tmps.getD p undef = v) (hq2 : a.tmps.getD u undef = v2) (hdf : a.defers = []) {Post : Ending → World → Prop} (hP : Post (.returned (.tuple #[v, .agg r.toArray, v2])) W) : bodyPost P fn Post .ret a W := by
 refine bodyPost_ret (v := .tuple #[v, .agg r.toArray, v2]) ?_ hdf hP
 rw [results_tmp_cell_tmp h, hp, hq, hq2]
 simp only [asAddr, Sem.run_pure, Result.andThen_ok, load_blk hB hu hd hi]
end Go.Mem
namespace Go.Proofs.YtnonfdcbnkdmcaaGreatDoor
open Go.RowKit Go.Mem Go.Shelf
open Go.Sto (Ent St Rul forkE BdL)

theorem OwnL.mono {B B' : Nat} {W : World} {v : Value} {l : List Ent} (h : OwnL B W v l) (hB : B' ≤ B) : OwnL B' W v l := by
 obtain ⟨rows, h1, h3⟩ := h
 exact ⟨rows, ownsRow_mono h1 hB, h3.imp fun _ _ h => h.imp fun _ _ h => ⟨Nat.le_trans hB h.1, h.2⟩⟩
theorem OwnL.grow {B g : Nat} {W W' : World} {v : Value} {l : List Ent} (h : OwnL B W v l) (hg : W.grownBy W' (some g)) (hB : g < B) : OwnL B W' v l := by
 have hbs := h.base
 obtain ⟨rows, h1, h3⟩ := h
 exact ⟨rows, h1.kept hg (.inr fun e => by have := hbs _ e; omega), h3.imp fun _ _ h => h.keep (.grown hg fun b hb e => by have := hb.1; omega)⟩
theorem headC_one (st fo no : Int) (D : List Nat) (R S : Int) : ∀ u ∈ headC st fo no D R S, u.oneCell' = true := by
 intro u hu
 simp only [headC, List.mem_cons, List.mem_append, List.not_mem_nil, or_false] at hu
 rcases hu with (rfl | rfl | rfl) | hu | rfl | rfl
 · rfl
 · rfl
 · rfl
 · exact bv_one _ u hu
 · rfl
 · rfl
theorem OwnL.ok {B : Nat} {W : World} {v : Value} {l : List Ent} (h : OwnL B W v l) : ∀ e ∈ l, OkE e := by
 obtain ⟨rows, _, h2⟩ := h
 intro e he
 obtain ⟨i, hi⟩ := List.getElem?_of_mem he
 obtain ⟨r, _, h3, _⟩ := h2.get hi
 exact h3.1
def showH (s : St) (rs : List Rul) (dev f : Int) : List Value := if (Sto.shownL s rs dev f).2.2 = 0 then signHd s f (Sto.shownL s rs dev f).2.1.length ((Sto.shownL s rs dev f).2.1.map (·.dig)) else zeroHd
def ShoPost (L : List Ent) (hd : List Value) (q : Int) (w : World) (e : Ending) (w' : World) : Prop :=
 ∃ v, e = .returned (.tuple #[v, .agg hd.toArray, .int .i64 q]) ∧ OwnL w.heap.size w' v L ∧ Below w.heap.size w w'
theorem size37 : (Tryz.prog.info? 36).map (·.size) = some 37 := by kernel_rfl
theorem zeroHd_len : zeroHd.length = 37 := by kernel_rfl
theorem signHd_len (s : St) (f : Int) (n : Nat) (ds : List (List Nat)) : (signHd s f n ds).length = 37 := by
 unfold signHd headC
 have := (chain_len f ds).1
 simp [bv_length, this]

set_option maxRecDepth 20000 in
set_option maxHeartbeats 4000000 in
theorem lshow_any (a : Option Addr) (n c : Nat) (s : St) (ra : Option Addr) (rn rc : Nat) (rs : List Rul) (dev f : Int) (hf : I64 f) (w : World) (HT : Tabs w) (H : SV (fun _ => True) w a n c s) (HR : RuS w ra rn rc rs) (hbd : BdL 0 (Sto.ents s f)) :
 Calls Tryz.prog 10 #[.agg (liC s a n c ra rn rc).toArray, .int .i64 dev, .int .i64 f] w (ShoPost (Sto.showL s rs dev f).1 (showH s rs dev f) (Sto.showL s rs dev f).2 w) := by
 have HT' := Lib.hid HT; have H' := Lib.hid H; have HR' := Lib.hid HR
 have hbd' := Lib.hid hbd
 clear HT H HR hbd
 obtain ⟨sb, hsb⟩ : ∃ sb, Hid (w.heap.size = sb) := ⟨_, rfl⟩
 obtain ⟨W1, hW1⟩ : ∃ W1, Hid ((w.alloc (.cells #[.int .i64 s.id, .int .i64 s.priv, .slice a n c, .slice ra rn rc] 27)).alloc (.cells zeroHd.toArray 36) = W1) := ⟨_, rfl⟩
 have e1 : (w.alloc (.cells #[.int .i64 s.id, .int .i64 s.priv, .slice a n c, .slice ra rn rc] 27)).heap.size = sb + 1 := by rw [World.size_alloc, hsb.out]
 have hB1 : Hid (Blk W1 sb 27 (liC s a n c ra rn rc)) := by rw [← hW1.out, ← hsb.out]; exact (Blk.new w _ (liC s a n c ra rn rc)).alloc _
 have hB2 : Hid (Blk W1 (sb + 1) 36 zeroHd) := by rw [← hW1.out, ← e1]; exact Blk.new _ _ _
 have hb1 : Hid (Below w.heap.size w W1) := by rw [← hW1.out]; exact ((Below.refl _ w).alloc (Nat.le_refl _) _).alloc (by simp) _
 clear e1
 have hc := Lib.hid (lshown_any a n c s ra rn rc rs dev f W1 (HT'.out.below hb1.out) (H'.out.below hb1.out) (HR'.out.below hb1.out) hbd'.out)
 have hsz := Lib.hid (Sto.shown_bd (rs := rs) (dev := dev) hbd'.out)
 have hok0 := Lib.hid (@Sto.shownL_ok s rs dev f)
 obtain ⟨X, hXX⟩ : ∃ X, Hid (X = ShoPost (Sto.showL s rs dev f).1 (showH s rs dev f) (Sto.showL s rs dev f).2 w) := ⟨_, rfl⟩
 rw [← hXX.out]
 unfold Sto.showL showH at hXX
 generalize hp : Sto.shownL s rs dev f = p at hc hsz hok0 hXX
 obtain ⟨T, L, q⟩ := p
 simp only at hc hsz hok0 hXX
 unfold liC at *
 go_enter Tryz.func10, Tryz.ntmps10
 go_upto_region 1 with fail
 rw [hsb.out]
 generalize hWq : (w.alloc _).alloc _ = Wq
 obtain rfl : W1 = Wq := by rw [← hWq]; exact hW1.out.symm
 clear hWq hW1
 have c0 := hB1.out.at_ (i := 0) rfl
 have c1 := hB1.out.at_ (i := 1) rfl
 have c2 := hB1.out.at_ (i := 2) rfl
 have c3 := hB1.out.at_ (i := 3) rfl
 go_wp2_with fail
 refine hc.out.mono ?_
 rintro e w2 ⟨ta, tc, v, B, rfl, _, hown, _, _, _, hst⟩
 have hown' := Lib.hid hown
 have hBw : Hid (Below w.heap.size w w2) := hb1.out.trans (hst.mono hb1.out.size)
 have hB3 := Lib.hid (hB1.out.below hst hB1.out.lt)
 have hB4 := Lib.hid (hB2.out.below hst hB2.out.lt)
 have hBl' : Hid (w.heap.size ≤ W1.heap.size) := hb1.out.size
 have hB1sz : Hid (sb + 1 < W1.heap.size) := hB2.out.lt
 clear hown hst hB1 hB2 hb1 hc c0 c1 c2 c3
 by_cases h0 : q = 0
 · subst h0
   obtain ⟨q1, q2, q3, q4⟩ := hok0.out rfl
   have hop := Lib.hid (Sto.fetch_open q3)
   clear q1 q2 q3 q4 hok0
   have hLn : L.length ≤ 78 := hsz.out.len
   obtain ⟨va, vc, rfl, hES⟩ := hown'.out.es (by omega)
   obtain ⟨hdv, hhd⟩ : ∃ hdv, Hid (signHd s f L.length (L.map (·.dig)) = hdv) := ⟨_, rfl⟩
   have hlen37 : Hid (hdv.length = 37) := by rw [← hhd.out]; exact signHd_len _ _ _ _
   have hone : Hid (∀ u ∈ hdv, u.oneCell' = true) := by rw [← hhd.out]; exact headC_one _ _ _ _ _ _
   have hsg : Hid (∀ W, Below w2.heap.size w2 W → Calls Tryz.prog 38 #[.agg #[.int .i64 s.id, .int .i64 s.priv, .slice a n c], .int .i64 f, .slice va L.length vc] W (SignHPost hdv 0 W)) := fun W hW => by
    have hWW := hBw.out.trans (hW.mono hBw.out.size)
    rw [← hhd.out]
    exact storeSign_any a n c s f hf (fun _ => True) va L.length vc L hown'.out.ok (by omega) W (HT'.out.below hWW) (H'.out.below hWW) (hES.below hW) hop.out
   rw [if_pos rfl, if_pos rfl, hhd.out] at hXX
   have hfin : Hid (∀ W, OwnL w.heap.size W (.slice va L.length vc) L → Below w.heap.size w W → X (.returned (.tuple #[.slice va L.length vc, .agg hdv.toArray, .int .i64 0])) W) := fun W h1 h2 => by
    rw [hXX.out]
    exact ⟨_, rfl, h1, h2⟩
   have c0 := hB3.out.at_ (i := 0) rfl
   have c1 := hB3.out.at_ (i := 1) rfl
   have c2 := hB3.out.at_ (i := 2) rfl
   clear hXX hp hhd hop hES hsz
   go_wp2_with fail
   refine (hsg.out _ (Below.refl _ _)).mono ?_
   rintro e w3 ⟨rfl, hst⟩
   have hB5 := Lib.hid (hB4.out.below hst hB4.out.lt)
   have ho3 := Lib.hid (hown'.out.kept hst)
   have hBw3 := Lib.hid (hBw.out.trans (hst.mono hBw.out.size))
   clear hst hsg hB3 hB4 hown' c0 c1 c2
   obtain ⟨W6, hQ⟩ := put_row (ty := 36) hB5.out (x := hdv) (by rw [hlen37.out, zeroHd_len]) (by rw [hlen37.out]; exact size37) hone.out
   have hb6 := Lib.hid (below_grown hBw3.out hQ.grown hBw3.out.size (by have := hsb.out; omega))
   obtain ⟨sz1, hsz1⟩ : ∃ x, Hid (W1.heap.size = x) := ⟨_, rfl⟩
   rw [hsz1.out] at hB1sz hBl' ho3
   have ho6 : Hid (OwnL sz1 W6 (.slice va L.length vc) L) := ho3.out.grow hQ.grown hB1sz.out
   have hQ' := Lib.hid hQ
   have hBk := Lib.hid hQ.blk
   have hth := Lib.hid hQ.there
   have hin := Lib.hid hQ.info
   have hon := Lib.hid hQ.one
   have heq := Lib.hid hQ.eq
   clear hQ
   go_upto_region 5 with (first
    | (refine wpList_store_mid (by rfl) 36 (.tmp 7) (.tmp 27) (by rfl) (sb + 1) 0 hdv.toArray (by rfl) (by rfl) hth.out hin.out (by simpa using hon.out) ?_))
   generalize hWq : World.setCells _ _ _ _ = Wq
   obtain rfl : W6 = Wq := by rw [← hWq]; exact heq.out
   clear hWq heq hth hin hB5 ho3 hBw3
   go_upto_region 7 with fail
   refine wp_region_held_drew (S := fun wz => Blk wz (sb + 1) 36 hdv ∧ OwnL sz1 wz (.slice va L.length vc) L ∧ Below w.heap.size w wz) (by kernel_rfl) (⟨hBk.out.below (Below.refl _ W6).drew hBk.out.lt, ho6.out.kept (Below.refl _ W6).drew, hb6.out.drew⟩) (fun hHeld => ?_)
   refine tQ 0 rfl hHeld ?_
   refine tG 1 rfl (yieldsIf_load_mid (by rfl) _ _ rfl (sb + 1) 0 rfl (hdv) _ (fun wz h => h.1.range) Tryz.underlying36 rfl (by rw [hlen37.out]; exact size37)) hHeld ?_
   refine tQ 2 rfl hHeld ?_
   obtain ⟨W7, hQ⟩ := put_row (ty := 36) hHeld.1 (x := hdv) rfl (by rw [hlen37.out]; exact size37) hone.out
   have hb7 := below_grown hHeld.2.2 hQ.grown hHeld.2.2.size (by have := hsb.out; omega)
   have ho7 := hHeld.2.1.grow hQ.grown hB1sz.out
   refine tO 3 rfl (fun K hK => ?_)
   refine wp_store_mid 36 _ _ rfl (sb + 1) 0 hdv.toArray (by rfl) (by rfl) hQ.there hQ.info (by simpa using hQ.one) ?_
   generalize hWq : World.setCells _ _ _ _ = Wa
   obtain rfl : W7 = Wa := by rw [← hWq]; exact hQ.eq
   clear hWq
   refine hK.out _ _ ⟨hQ.blk, ho7, hb7⟩ (fun hHeld => ?_)
   clear hK K
   try simp only [Act.put]
   refine tQ 4 rfl hHeld ?_
   refine wpAnyH_done (by kernel_rfl) ?_ _
   go_wp2_with fail
   exact ret_tmp_cell_tmp (fn := Tryz.f10) rfl hHeld.1 Tryz.underlying36 rfl (by rw [hlen37.out]; exact size37) rfl rfl rfl rfl (hfin.out _ (hHeld.2.1.mono hBl'.out) hHeld.2.2)
 · have hfin : Hid (∀ W, Below w.heap.size w W → X (.returned (.tuple #[.slice none 0 0, .agg zeroHd.toArray, .int .i64 q])) W) := fun W h => by
    rw [hXX.out, if_neg h0, if_neg h0]
    exact ⟨_, rfl, ownL_nil _ _, h⟩
   clear hXX hok0 hp
   go_upto_region 3 with fail
   refine wp_region_held_drew (S := fun wz => Blk wz (sb + 1) 36 zeroHd ∧ Below w.heap.size w wz) (by kernel_rfl) (⟨hB4.out.below (Below.refl _ w2).drew hB4.out.lt, hBw.out.drew⟩) (fun hHeld => ?_)
   refine tG 0 rfl (yieldsIf_load_mid (by rfl) _ _ rfl (sb + 1) 0 rfl (zeroHd) _ (fun wz h => h.1.range) Tryz.underlying36 rfl (by rw [zeroHd_len]; exact size37)) hHeld ?_
   refine tQ 1 rfl hHeld ?_
   refine tQ 2 rfl hHeld ?_
   obtain ⟨W6, hQ⟩ := put_row (ty := 36) hHeld.1 (x := zeroHd) rfl (by rw [zeroHd_len]; exact size37) (headC_one _ _ _ _ _ _)
   have hb6 := below_grown hHeld.2 hQ.grown hHeld.2.size (by have := hsb.out; omega)
   refine tO 3 rfl (fun K hK => ?_)
   refine wp_store_mid 36 _ _ rfl (sb + 1) 0 zeroHd.toArray (by rfl) (by rfl) hQ.there hQ.info (by simpa using hQ.one) ?_
   generalize hWq : World.setCells _ _ _ _ = Wa
   obtain rfl : W6 = Wa := by rw [← hWq]; exact hQ.eq
   clear hWq
   refine hK.out _ _ ⟨hQ.blk, hb6⟩ (fun hHeld => ?_)
   clear hK K
   try simp only [Act.put]
   refine tQ 4 rfl hHeld ?_
   refine wpAnyH_done (by kernel_rfl) ?_ _
   go_wp2_with fail
   exact ret_tmp_cell_tmp (fn := Tryz.f10) rfl hHeld.1 Tryz.underlying36 rfl (by rw [zeroHd_len]; exact size37) rfl rfl rfl rfl (hfin.out _ hHeld.2)
end Go.Proofs.YtnonfdcbnkdmcaaGreatDoor
namespace Go.Sto
def sameE (x y : Ent) : Bool := decide (x.kind = y.kind) && (decide (x.dig = y.dig) && (decide (x.gone = y.gone) && decide (x.data = y.data)))
end Go.Sto
namespace Go.Proofs.YtnonfdcbnkdmcaaGreatDoor
open Go.RowKit Go.Mem Go.Shelf
open Go.Sto (Ent St Rul forkE BdL)

theorem bytes_of (x : List Nat) : Lib.bytesOf (x.map fun (u : Nat) => (u : Int)) = x.map UInt8.ofNat := by
 unfold Lib.bytesOf
 rw [List.map_map]
 refine List.map_congr_left fun u _ => ?_
 simp
theorem bytes_map : ∀ {x y : List Nat}, (∀ u ∈ x, u < 256) → (∀ u ∈ y, u < 256) → x.map UInt8.ofNat = y.map UInt8.ofNat → x = y
 | [], [], _, _, _ => rfl
 | [], _ :: _, _, _, h => by cases h
 | _ :: _, [], _, _, h => by cases h
 | u :: x, v :: y, hx, hy, h => by
  rw [List.map_cons, List.map_cons] at h
  injection h with h1 h2
  have h3 := congrArg UInt8.toNat h1
  have hu := hx u (List.mem_cons_self ..)
  have hv := hy v (List.mem_cons_self ..)
  rw [UInt8.toNat_ofNat', UInt8.toNat_ofNat', Nat.mod_eq_of_lt hu, Nat.mod_eq_of_lt hv] at h3
  rw [h3, bytes_map (fun z hz => hx z (List.mem_cons_of_mem _ hz)) (fun z hz => hy z (List.mem_cons_of_mem _ hz)) h2]
theorem bytes_inj {x y : List Nat} (hx : ∀ u ∈ x, u < 256) (hy : ∀ u ∈ y, u < 256) : (Lib.bytesOf (x.map fun (u : Nat) => (u : Int)) == Lib.bytesOf (y.map fun (u : Nat) => (u : Int))) = decide (x = y) := by
 rw [bytes_of, bytes_of]
 by_cases h : x = y
 · subst h; simp
 · rw [decide_eq_false h]
   exact beq_eq_false_iff_ne.2 fun e => h (bytes_map hx hy e)
theorem bytesEq_any {a a' : Option Addr} {n c n' c' : Nat} {x y : List Nat} {w : World} (hx : BW w a n c x) (hy : BW w a' n' c' y) :
 Calls Tryz.prog 96 #[.slice a n c, .slice a' n' c'] w (fun e w' => e = .returned (.bool (decide (x = y))) ∧ w' = w) := by
 have := Tryz.bytes_Equal (.slice a n c) (.slice a' n' c') (x.map fun (u : Nat) => (u : Int)) (y.map fun (u : Nat) => (u : Int)) w (bs_text hx) (bs_text hy)
 rwa [bytes_inj hx.lt hy.lt] at this

theorem rangeAt_dig {W : World} {g n c : Nat} {e : Ent} {a : Option Addr} (h : Blk W g 75 (entC e a n c)) (_ok : OkE e) : W.rangeAt g 1 (bv e.dig) := fun j v hv => by
 rw [bv, List.getElem?_map] at hv
 obtain ⟨u, hu, rfl⟩ := Option.map_eq_some_iff.1 hv
 have := h.at_ (entC_dig hu a n c)
 rwa [Nat.add_comm j 1] at this

set_option maxRecDepth 20000 in
set_option maxHeartbeats 4000000 in
theorem lsame_any (e f : Ent) (a a' : Option Addr) (n c n' c' : Nat) (w : World) (oe : OkE e) (of : OkE f) (H1 : BW w a n c e.data) (H2 : BW w a' n' c' f.data) :
 Calls Tryz.prog 44 #[.agg (entC e a n c).toArray, .agg (entC f a' n' c').toArray] w (RetBo (Sto.sameE e f) w) := by
 obtain ⟨tb, htb⟩ : ∃ tb, Hid (w.heap.size = tb) := ⟨_, rfl⟩
 obtain ⟨W1, hW1⟩ : ∃ W1, Hid ((w.alloc (.cells (entC e a n c).toArray 75)).alloc (.cells (entC f a' n' c').toArray 75) = W1) := ⟨_, rfl⟩
 have e1 : (w.alloc (.cells (entC e a n c).toArray 75)).heap.size = tb + 1 := by rw [World.size_alloc, htb.out]
 have hB1 : Hid (Blk W1 tb 75 (entC e a n c)) := by rw [← hW1.out, ← htb.out]; exact (Blk.new w _ _).alloc _
 have hB2 : Hid (Blk W1 (tb + 1) 75 (entC f a' n' c')) := by rw [← hW1.out, ← e1]; exact Blk.new _ _ _
 have hb1 : Hid (Below w.heap.size w W1) := by rw [← hW1.out]; exact ((Below.refl _ w).alloc (Nat.le_refl _) _).alloc (by simp) _
 clear e1
 obtain ⟨R, hR⟩ : ∃ R, Hid (Sto.sameE e f = R) := ⟨_, rfl⟩
 rw [hR.out]
 go_enter Tryz.func44, Tryz.ntmps44
 go_upto_region 1 with fail
 rw [htb.out]
 generalize hWq : (w.alloc _).alloc _ = Wq
 obtain rfl : W1 = Wq := by rw [← hWq]; exact hW1.out.symm
 clear hWq hW1
 have x0 := hB1.out.at_ (entC_kind e a n c)
 have y0 := hB2.out.at_ (entC_kind f a' n' c')
 have x1 : Hid (W1.rangeAt tb 1 (bv e.dig)) := rangeAt_dig hB1.out oe
 have y1 : Hid (W1.rangeAt (tb + 1) 1 (bv f.dig)) := rangeAt_dig hB2.out of
 have x2 := hB1.out.at_ (entC_data oe.dig a n c)
 have y2 := hB2.out.at_ (entC_data of.dig a' n' c')
 have x3 := hB1.out.at_ (entC_gone oe.dig a n c)
 have y3 := hB2.out.at_ (entC_gone of.dig a' n' c')
 have hq := fun W => eq_dig (x := e.dig) (y := f.dig) ⟨oe.dig, oe.lt⟩ ⟨of.dig, of.lt⟩ W
 have hs1 : Hid ((Tryz.prog.info? 32).map (·.size) = some (bv e.dig).length) := by show _ = _; rw [bv_length, oe.dig]; exact size35
 have hs2 : Hid ((Tryz.prog.info? 32).map (·.size) = some (bv f.dig).length) := by show _ = _; rw [bv_length, of.dig]; exact size35
 have hbe := Lib.hid (bytesEq_any (H1.below hb1.out) (H2.below hb1.out))
 have hfin : Hid (∀ W q, Below w.heap.size w W → q = Sto.sameE e f → RetBo R w (.returned (.bool q)) W) := fun W q h e => ⟨by rw [e, hR.out], h⟩
 clear H1 H2 oe of hB1 hB2
 by_cases h1 : e.kind = f.kind
 · by_cases h2 : e.dig = f.dig
   · by_cases h3 : e.gone = f.gone
     · have hf : Hid (∀ W, Below w.heap.size w W → RetBo R w (.returned (.bool (decide (e.data = f.data)))) W) := fun W hW => hfin.out W _ hW (by unfold Sto.sameE; rw [decide_eq_true h1, decide_eq_true h2, decide_eq_true h3]; rfl)
       rw [decide_eq_true h2, h2] at hq
       rw [h2] at x1 hs1
       clear h2
       rw [h1] at x0
       rw [h3] at x3
       clear hfin hR
       go_wp2_with (first
        | (refine wpList_load_g (by rfl) 32 _ (by rfl) tb 1 (by rfl) (bv f.dig) _ x1.out Tryz.underlying32 (by rfl) hs1.out ?_)
         | (refine wpList_load_g (by rfl) 32 _ (by rfl) (tb + 1) 1 (by rfl) (bv f.dig) _ y1.out Tryz.underlying32 (by rfl) hs2.out ?_))
       refine hbe.out.mono ?_
       rintro e2 w2 ⟨rfl, rfl⟩
       go_wp2_with fail
       go_ret
       exact hf.out _ hb1.out
     · have hf : Hid (∀ W, Below w.heap.size w W → RetBo R w (.returned (.bool false)) W) := fun W hW => hfin.out W _ hW (by unfold Sto.sameE; rw [decide_eq_true h1, decide_eq_true h2, decide_eq_false h3]; rfl)
       rw [decide_eq_true h2, h2] at hq
       rw [h2] at x1 hs1
       clear h2
       rw [h1] at x0
       clear hfin hR
       go_wp2_with (first
        | (refine wpList_load_g (by rfl) 32 _ (by rfl) tb 1 (by rfl) (bv f.dig) _ x1.out Tryz.underlying32 (by rfl) hs1.out ?_)
         | (refine wpList_load_g (by rfl) 32 _ (by rfl) (tb + 1) 1 (by rfl) (bv f.dig) _ y1.out Tryz.underlying32 (by rfl) hs2.out ?_))
       go_ret
       exact hf.out _ hb1.out
   · have hf : Hid (∀ W, Below w.heap.size w W → RetBo R w (.returned (.bool false)) W) := fun W hW => hfin.out W _ hW (by unfold Sto.sameE; rw [decide_eq_true h1, decide_eq_false h2]; rfl)
     rw [decide_eq_false h2] at hq
     rw [h1] at x0
     clear hfin hR
     go_wp2_with (first
      | (refine wpList_load_g (by rfl) 32 _ (by rfl) tb 1 (by rfl) (bv e.dig) _ x1.out Tryz.underlying32 (by rfl) hs1.out ?_)
      | (refine wpList_load_g (by rfl) 32 _ (by rfl) (tb + 1) 1 (by rfl) (bv f.dig) _ y1.out Tryz.underlying32 (by rfl) hs2.out ?_))
     go_ret
     exact hf.out _ hb1.out
 · have hf : Hid (∀ W, Below w.heap.size w W → RetBo R w (.returned (.bool false)) W) := fun W hW => hfin.out W _ hW (by unfold Sto.sameE; rw [decide_eq_false h1]; rfl)
   clear hfin hR
   go_wp2_with fail
   go_ret
   exact hf.out _ hb1.out
end Go.Proofs.YtnonfdcbnkdmcaaGreatDoor
namespace Go.Sto
theorem sameE_self (x : Ent) : sameE x x = true := by unfold sameE; simp
def sameL : List Ent → List Ent → Bool
 | [], [] => true
 | x :: a, y :: b => sameE x y && sameL a b
 | _, _ => false
theorem sameL_self : ∀ l : List Ent, sameL l l = true
 | [] => rfl
 | x :: l => by unfold sameL; rw [sameE_self, sameL_self l]; rfl
theorem sameL_len : ∀ {a b : List Ent}, sameL a b = true → a.length = b.length
 | [], [], _ => rfl
 | [], _ :: _, h => by cases h
 | _ :: _, [], h => by cases h
 | x :: a, y :: b, h => by
  unfold sameL at h
  rw [List.length_cons, List.length_cons, sameL_len (Bool.and_eq_true_iff.1 h).2]
def honestL (s : St) (rs : List Rul) (dev f : Int) : Bool × Int :=
 (decide ((shownL s rs dev f).2.2 = 0) && sameL (shownL s rs dev f).1 (shownL s rs dev f).2.1, (shownL s rs dev f).2.2)
def apartE : List Ent → List Ent → Bool
 | x :: a, y :: b => if x.dig = y.dig then apartE a b else true
 | _, _ => false
def apartL (s : St) (rs : List Rul) (a b f : Int) : Bool × Int :=
 if (shownL s rs a f).2.2 = 0 then (if (shownL s rs b f).2.2 = 0 then (apartE (shownL s rs a f).2.1 (shownL s rs b f).2.1, 0) else (false, (shownL s rs b f).2.2)) else (false, (shownL s rs a f).2.2)
theorem apartE_take : ∀ (l : List Ent) (k : Nat), apartE l (l.take k) = false
 | [], k => by rw [List.take_nil]; rfl
 | x :: l, 0 => rfl
 | x :: l, k + 1 => by
  rw [List.take_succ_cons]
  unfold apartE
  rw [if_pos rfl, apartE_take l k]
def wo (rs : List Rul) (o : Int) : List Rul := rs.filter fun r => decide (r.dev ≠ o)
end Go.Sto
namespace Go.Sto
theorem sameL_step {a b : List Ent} {k : Nat} {x y : Ent} (hx : a[k]? = some x) (hy : b[k]? = some y) : sameL (a.drop k) (b.drop k) = (sameE x y && sameL (a.drop (k + 1)) (b.drop (k + 1))) := by
 have hk := (List.getElem?_eq_some_iff.1 hx).1
 have hj := (List.getElem?_eq_some_iff.1 hy).1
 rw [List.drop_eq_getElem_cons hk, List.drop_eq_getElem_cons hj, (List.getElem?_eq_some_iff.1 hx).2, (List.getElem?_eq_some_iff.1 hy).2]
 rfl
end Go.Sto
namespace Go.Proofs.YtnonfdcbnkdmcaaGreatDoor
open Go.RowKit Go.Mem Go.Shelf
open Go.Sto (Ent St Rul forkE BdL)

set_option maxRecDepth 20000 in
set_option maxHeartbeats 4000000 in
theorem equalF_any {K1 K2 : Nat → Prop} (a1 : Option Addr) (n1 c1 : Nat) (l1 : List Ent) (a2 : Option Addr) (n2 c2 : Nat) (l2 : List Ent) (w : World) (H1 : ES K1 w a1 n1 c1 l1) (H2 : ES K2 w a2 n2 c2 l2) :
 Calls Tryz.prog 43 #[.slice a1 n1 c1, .slice a2 n2 c2, .func (.func 44) #[] #[]] w (RetBo (Sto.sameL l1 l2) w) := by
 have e1 := H1.rs.len
 have e2 := H2.rs.len
 have hbd1 := H1.bd
 have hbd2 := H2.bd
 have H1' := Lib.hid H1; have H2' := Lib.hid H2
 clear H1 H2
 obtain ⟨R, hR⟩ : ∃ R, Hid (Sto.sameL l1 l2 = R) := ⟨_, rfl⟩
 obtain ⟨X, hX⟩ : ∃ X, X = RetBo (Sto.sameL l1 l2) w := ⟨_, rfl⟩
 have hfin : Hid (∀ b W, R = b → Below w.heap.size w W → X (.returned (.bool b)) W) := fun b W hb h => by rw [hX, hR.out, hb]; exact ⟨rfl, h⟩
 rw [← hX]
 clear hX
 by_cases hn : n1 = n2
 case neg =>
  have g1 : ((n1 : Int) != (n2 : Int)) = true := by simp; omega
  have hf := Lib.hid (hfin.out false w (by
   rw [← hR.out]
   rcases hq : Sto.sameL l1 l2 with _ | _
   · rfl
   · exact absurd (Sto.sameL_len hq) (by omega)) (Below.refl _ w))
  clear hn
  go_enter Tryz.func43, Tryz.ntmps43
  go_wp2_with fail
  exact hf.out
 case pos =>
  subst hn
  go_enter Tryz.func43, Tryz.ntmps43
  go_wp2_with fail
  go_loopw [17] (fun i wr => ∃ k : Nat, k ≤ n1 ∧ i = .int .i64 k ∧ Hid (Sto.sameL (l1.drop k) (l2.drop k) = R) ∧ Hid (Below w.heap.size w wr)) (fun i _ => n1 - (intOf i).toNat)
  case atStart => exact ⟨0, Nat.zero_le _, rfl, hR, Below.refl _ _⟩
  case round =>
   obtain ⟨k, hk, rfl, htk, hb⟩ := hrel
   by_cases hlt : k < n1
   case neg =>
    have hkn : k = n1 := by omega
    subst hkn
    have hf : Hid (X (.returned (.bool true)) wr) := hfin.out true wr (by
     rw [← htk.out, List.drop_eq_nil_of_le (by omega), List.drop_eq_nil_of_le (by omega)]; rfl) hb.out
    clear htk hR
    go_wp2_with fail
    exact hf.out
   case pos =>
    obtain ⟨x, hx⟩ : ∃ x, l1[k]? = some x := ⟨_, List.getElem?_eq_getElem (by omega)⟩
    obtain ⟨y, hy⟩ : ∃ y, l2[k]? = some y := ⟨_, List.getElem?_eq_getElem (by omega)⟩
    have hst := Lib.hid ((Sto.sameL_step hx hy).symm.trans htk.out)
    obtain ⟨b1, o1, r1, rfl, hl1, _, ⟨ox, xa, xn, xc, er1, hk1⟩, hrl1, hrg1⟩ := (H1'.out.below hb.out).rs.get hx
    obtain ⟨W5, hP⟩ := put_row (ty := 75) (Blk.new wr 75 (entC ⟨0, List.replicate 32 0, [], false⟩ none 0 0)) (x := r1) (by rw [hrl1]; rfl) (by rw [hrl1]; exact sizeE) (by rw [er1]; exact entC_one _ _ _ _)
    have hgw : wr.grownBy W5 none := ⟨hP.grown.os, hP.grown.tape, hP.grown.output, Nat.le_trans (by simp) hP.grown.size, fun q hq _ => (hP.grown.block q (by simp; omega) (fun e => by cases e; omega)).trans (Below.heap_alloc wr _ q hq)⟩
    have hbw5 : Below wr.heap.size wr W5 := (Below.refl _ wr).grown hgw (Nat.le_refl _) (fun _ e => by cases e)
    have hb5 := Lib.hid (hb.out.trans (hbw5.mono hb.out.size))
    obtain ⟨b2, o2, r2, rfl, hl2, _, ⟨oy, ya, yn, yc, er2, hk2⟩, hrl2, hrg2⟩ := (H2'.out.below hb5.out).rs.get hy
    obtain ⟨W7, hP2⟩ := put_row (ty := 75) (Blk.new W5 75 (entC ⟨0, List.replicate 32 0, [], false⟩ none 0 0)) (x := r2) (by rw [hrl2]; rfl) (by rw [hrl2]; exact sizeE) (by rw [er2]; exact entC_one _ _ _ _)
    have hgw2 : W5.grownBy W7 none := ⟨hP2.grown.os, hP2.grown.tape, hP2.grown.output, Nat.le_trans (by simp) hP2.grown.size, fun q hq _ => (hP2.grown.block q (by simp; omega) (fun e => by cases e; omega)).trans (Below.heap_alloc W5 _ q hq)⟩
    have hbw7 : Below W5.heap.size W5 W7 := (Below.refl _ W5).grown hgw2 (Nat.le_refl _) (fun _ e => by cases e)
    have hb7 := Lib.hid (hb5.out.trans (hbw7.mono hb5.out.size))
    have hi1 : Hid ((Tryz.prog.info? 75).map (·.size) = some r1.length) := by show _ = _; rw [hrl1]; exact sizeE
    have hi2 : Hid ((Tryz.prog.info? 75).map (·.size) = some r2.length) := by show _ = _; rw [hrl2]; exact sizeE
    have hra : Hid (W7.rangeAt wr.heap.size 0 r1) := (hP.blk.below hbw7 hP.blk.lt).range
    have hrb : Hid (W7.rangeAt W5.heap.size 0 r2) := hP2.blk.range
    have hsm : Hid (Calls Tryz.prog 44 #[.agg r1.toArray, .agg r2.toArray] W7 (RetBo (Sto.sameE x y) W7)) := by
     rw [er1, er2]
     exact lsame_any x y xa ya xn xc yn yc W7 ox oy ((hk1.bs.below hbw5).below hbw7) (hk2.bs.below hbw7)
    have hrg1' := Lib.hid hrg1
    have hrg2' := Lib.hid hrg2
    have hP' := Lib.hid hP
    have hP2' := Lib.hid hP2
    have k0 : (0 : Int) ≤ (k : Int) := by omega
    have k1 : (k : Int) < (n1 : Int) := by omega
    have kw : IntKind.i64.wrap ((k : Int) + 1) = (k : Int) + 1 := IntWalk.i64_in _ (by omega)
    clear hx hy hP hP2 hgw hgw2 hbw5 hbw7 hrg1 hrg2 hrl1 hrl2 er1 er2 ox oy hk1 hk2 hl1 hl2 htk hb hb5 hR
    obtain ⟨q, hq⟩ : ∃ q, Hid (Sto.sameE x y = q) := ⟨_, rfl⟩
    rw [hq.out] at hsm hst
    clear hq
    go_wp2_with (first
     | (refine wpList_store_mid (by rfl) 75 _ _ (by rfl) wr.heap.size 0 r1.toArray (by rfl) (by rfl) hP'.out.there hP'.out.info (by simpa using hP'.out.one) ?_
        generalize hWq : World.setCells _ _ _ _ = Wa
        obtain rfl : W5 = Wa := by rw [← hWq]; exact hP'.out.eq
        clear hWq)
         | (refine wpList_store_mid (by rfl) 75 _ _ (by rfl) W5.heap.size 0 r2.toArray (by rfl) (by rfl) hP2'.out.there hP2'.out.info (by simpa using hP2'.out.one) ?_
            generalize hWq : World.setCells _ _ _ _ = Wa
            obtain rfl : W7 = Wa := by rw [← hWq]; exact hP2'.out.eq
            clear hWq)
         | (refine wpList_load_g (by rfl) 75 _ (by rfl) b1 (o1 + k * 35) (by rfl) r1 _ hrg1'.out Tryz.underlying75 (by rfl) hi1.out ?_)
         | (refine wpList_load_g (by rfl) 75 _ (by rfl) b2 (o2 + k * 35) (by rfl) r2 _ hrg2'.out Tryz.underlying75 (by rfl) hi2.out ?_)
         | (refine wpList_load_g (by rfl) 75 _ (by rfl) wr.heap.size 0 (by rfl) r1 _ hra.out Tryz.underlying75 (by rfl) hi1.out ?_)
         | (refine wpList_load_g (by rfl) 75 _ (by rfl) W5.heap.size 0 (by rfl) r2 _ hrb.out Tryz.underlying75 (by rfl) hi2.out ?_))
    refine hsm.out.mono ?_
    rintro e w8 ⟨rfl, hb8⟩
    have hb9 := Lib.hid (hb7.out.trans (hb8.mono hb7.out.size))
    clear hb8 hb7 hra hrb hsm hrg1' hrg2' hP' hP2' hi1 hi2
    cases q with
    | false =>
     have hf : Hid (X (.returned (.bool false)) w8) := hfin.out false w8 (by rw [← hst.out]; rfl) hb9.out
     clear hst
     go_wp2_with fail
     exact hf.out
    | true =>
     have hst2 : Hid (Sto.sameL (l1.drop (k + 1)) (l2.drop (k + 1)) = R) := by have := hst.out; rwa [Bool.true_and] at this
     clear hst
     go_wp2_with fail
     go_roundw
     case rel => exact ⟨k + 1, by omega, by go_num, hst2, hb9⟩
     case measure => simp [intOf]; omega
end Go.Proofs.YtnonfdcbnkdmcaaGreatDoor
namespace Go.Proofs.YtnonfdcbnkdmcaaGreatDoor
open Go.RowKit Go.Mem Go.Shelf
open Go.Sto (Ent St Rul forkE BdL)

def BIPost (p : Bool × Int) (w : World) (e : Ending) (w' : World) : Prop := e = .returned (.tuple #[.bool p.1, .int .i64 p.2]) ∧ Below w.heap.size w w'

set_option maxRecDepth 20000 in
set_option maxHeartbeats 4000000 in
theorem lhonest_any (a : Option Addr) (n c : Nat) (s : St) (ra : Option Addr) (rn rc : Nat) (rs : List Rul) (dev f : Int) (w : World) (HT : Tabs w) (H : SV (fun _ => True) w a n c s) (HR : RuS w ra rn rc rs) (hbd : BdL 0 (Sto.ents s f)) :
 Calls Tryz.prog 15 #[.agg (liC s a n c ra rn rc).toArray, .int .i64 dev, .int .i64 f] w (BIPost (Sto.honestL s rs dev f) w) := by
 have HT' := Lib.hid HT; have H' := Lib.hid H; have HR' := Lib.hid HR
 have hbd' := Lib.hid hbd
 clear HT H HR hbd
 obtain ⟨sb, hsb⟩ : ∃ sb, Hid (w.heap.size = sb) := ⟨_, rfl⟩
 obtain ⟨W1, hW1⟩ : ∃ W1, Hid (w.alloc (.cells #[.int .i64 s.id, .int .i64 s.priv, .slice a n c, .slice ra rn rc] 27) = W1) := ⟨_, rfl⟩
 have hB1 : Hid (Blk W1 sb 27 (liC s a n c ra rn rc)) := by rw [← hW1.out, ← hsb.out]; exact Blk.new w _ (liC s a n c ra rn rc)
 have hb1 : Hid (Below w.heap.size w W1) := by rw [← hW1.out]; exact (Below.refl _ w).alloc (Nat.le_refl _) _
 have hc := Lib.hid (lshown_any a n c s ra rn rc rs dev f W1 (HT'.out.below hb1.out) (H'.out.below hb1.out) (HR'.out.below hb1.out) hbd'.out)
 have hsz := Lib.hid (Sto.shown_bd (rs := rs) (dev := dev) hbd'.out)
 obtain ⟨X, hXX⟩ : ∃ X, Hid (X = BIPost (Sto.honestL s rs dev f) w) := ⟨_, rfl⟩
 rw [← hXX.out]
 unfold Sto.honestL at hXX
 generalize hp : Sto.shownL s rs dev f = p at hc hsz hXX
 obtain ⟨T, L, q⟩ := p
 simp only at hc hsz hXX
 have hLn : L.length ≤ 78 := hsz.out.len
 have hfin : Hid (∀ W r, Below w.heap.size w W → (decide (q = 0) && Sto.sameL T L) = r → X (.returned (.tuple #[.bool r, .int .i64 q])) W) := fun W r h e => by
  rw [hXX.out, ← e]
  exact ⟨rfl, h⟩
 clear hXX hsz hp
 unfold liC at *
 go_enter Tryz.func15, Tryz.ntmps15
 go_upto_region 1 with fail
 rw [hsb.out]
 generalize hWq : w.alloc _ = Wq
 obtain rfl : W1 = Wq := by rw [← hWq]; exact hW1.out.symm
 clear hWq hW1
 have c0 := hB1.out.at_ (i := 0) rfl
 have c1 := hB1.out.at_ (i := 1) rfl
 have c2 := hB1.out.at_ (i := 2) rfl
 have c3 := hB1.out.at_ (i := 3) rfl
 go_wp2_with fail
 refine hc.out.mono ?_
 rintro e w2 ⟨ta, tc, v, B, rfl, hES, hown, _, _, _, hst⟩
 obtain ⟨va, vc, rfl, hE2⟩ := hown.es (by omega)
 have hBw : Hid (Below w.heap.size w w2) := hb1.out.trans (hst.mono hb1.out.size)
 clear hown hst hB1 hb1 hc c0 c1 c2 c3
 by_cases h0 : q = 0
 · have heq := Lib.hid (equalF_any ta T.length tc T va L.length vc L w2 hES hE2)
   have hg : (q == 0) = true := by simpa using h0
   have hfin2 : Hid (∀ W, Below w.heap.size w W → X (.returned (.tuple #[.bool (Sto.sameL T L), .int .i64 q])) W) := fun W h => hfin.out W _ h (by rw [decide_eq_true h0]; rfl)
   clear hES hE2 hfin h0
   go_wp2_with fail
   refine heq.out.mono ?_
   rintro e w3 ⟨rfl, hb3⟩
   have hb4 := Lib.hid (hBw.out.trans (hb3.mono hBw.out.size))
   clear hb3
   go_wp2_with fail
   exact hfin2.out _ hb4.out
 · have hg : (q == 0) = false := by simpa using h0
   have hfin2 : Hid (∀ W, Below w.heap.size w W → X (.returned (.tuple #[.bool false, .int .i64 q])) W) := fun W h => hfin.out W _ h (by rw [decide_eq_false h0]; rfl)
   clear hES hE2 hfin h0
   go_wp2_with fail
   exact hfin2.out _ hBw.out
end Go.Proofs.YtnonfdcbnkdmcaaGreatDoor

