/- store.open, Fetch store.Fetch slices.IndexFunc at []api.Entry with a digest; slices.Clip store.Put store.Delete -/
import Derived.Test.YtnonfdcbnkdmcaaGreatDoorAl
import Derived.Test.YtnonfdcbnkdmcaaGreatDoorChk
import Derived.Test.YtnonfdcbnkdmcaaGreatDoorFin
import Derived.Deep.RegionLawGrows
import Derived.Laws.Tables
namespace Go.Proofs.YtnonfdcbnkdmcaaGreatDoor
open Go.RowKit Go.Mem
open Go.Sto (Ent Lg St)

def OpenPost (K : Nat → Prop) (s : St) (q : Int) (w : World) (e : Ending) (w' : World) : Prop :=
 Below w.heap.size w w' ∧ ((q = 0 ∧ ∃ bb, e = .returned (.tuple #[.pointer (some ⟨bb, 0, none⟩), .int .i64 0]) ∧ Book K w' bb s) ∨ (q ≠ 0 ∧ e = .returned (.tuple #[.pointer none, .int .i64 q])))

set_option maxRecDepth 20000 in
set_option maxHeartbeats 1000000 in
theorem open_any (K : Nat → Prop) (a : Option Addr) (n c : Nat) (s : St) (f : Int) (w : World) (HT : Tabs w) (H : SV K w a n c s) :
 Calls Tryz.prog 68 #[.agg #[.int .i64 s.id, .int .i64 s.priv, .slice a n c], .int .i64 f] w (OpenPost K s (Sto.openE s f) w) := by
 have HT' := Lib.hid HT; have H' := Lib.hid H
 clear HT H
 obtain ⟨sb, hsb⟩ : ∃ sb, Hid (w.heap.size = sb) := ⟨_, rfl⟩
 have hB1 : Hid (Blk (w.alloc (.cells #[.int .i64 s.id, .int .i64 s.priv, .slice a n c] 24)) sb 24 (stC s a n c)) := by rw [← hsb.out]; exact Blk.new w _ (stC s a n c)
 have hb1 : Hid (Below w.heap.size w (w.alloc (.cells #[.int .i64 s.id, .int .i64 s.priv, .slice a n c] 24))) := (Below.refl _ w).alloc (Nat.le_refl _) _
 have hck := Lib.hid (fun W (hW : Below w.heap.size w W) => Check_any K a n c s W (HT'.out.below hW) (H'.out.below hW))
 have b0 := hB1.out.at_ (i := 0) rfl
 have b1 := hB1.out.at_ (i := 1) rfl
 have b2 := hB1.out.at_ (i := 2) rfl
 have hfo := Lib.hid (fun W => isFolder_any f W)
 by_cases hc : Sto.chkS s = 0
 · rw [hc] at hck
   cases hf : Sto.folderB f with
   | true =>
    have hq : Sto.openE s f = 0 := by simp [Sto.openE, hc, hf]
    rw [hq]
    rw [hf] at hfo
    clear hq hf hc
    go_enter Tryz.func68, Tryz.ntmps68
    go_wp2_with fail
    rw [hsb.out]
    generalize World.alloc w _ = W1 at *
    refine (hck.out _ hb1.out).mono ?_
    rintro e w2 ⟨rfl, hb2⟩
    go_wp2_with fail
    refine (hfo.out _).mono ?_
    rintro e w3 ⟨rfl, rfl⟩
    have hB2 := hB1.out.below hb2 hB1.out.lt
    have c0 := hB2.at_ (i := 0) rfl
    have c1 := hB2.at_ (i := 1) rfl
    have c2 := hB2.at_ (i := 2) rfl
    have hb2' := Lib.hid (hb1.out.trans (hb2.mono hb1.out.size))
    clear hB2 hb2 hB1 hb1 hck b0 b1 b2
    go_wp2_with fail
    go_ret2
    have hb4 := hb2'.out.alloc hb2'.out.size (.cells #[.int .i64 s.id, .int .i64 s.priv, .slice a n c] 151)
    exact ⟨hb4, .inl ⟨rfl, _, rfl, ⟨_, a, n, c, Blk.new _ 151 (stC s a n c), H'.out.below hb4⟩⟩⟩
   | false =>
    have hq : Sto.openE s f = 1 := by simp [Sto.openE, hc, hf]
    rw [hq]
    rw [hf] at hfo
    clear hq hf hc
    go_enter Tryz.func68, Tryz.ntmps68
    go_wp2_with fail
    rw [hsb.out]
    generalize World.alloc w _ = W1 at *
    refine (hck.out _ hb1.out).mono ?_
    rintro e w2 ⟨rfl, hb2⟩
    go_wp2_with fail
    refine (hfo.out _).mono ?_
    rintro e w3 ⟨rfl, rfl⟩
    go_wp2_with fail
    go_ret2
    exact ⟨hb1.out.trans (hb2.mono hb1.out.size), .inr ⟨by decide, rfl⟩⟩
 · have h300 : Sto.chkS s = 300 := by unfold Sto.chkS at hc ⊢; split at hc <;> simp_all
   have hq : Sto.openE s f = 300 := by simp [Sto.openE, hc]
   rw [hq]
   rw [h300] at hck
   clear hq hc h300
   go_enter Tryz.func68, Tryz.ntmps68
   go_wp2_with fail
   rw [hsb.out]
   generalize World.alloc w _ = W1 at *
   refine (hck.out _ hb1.out).mono ?_
   rintro e w2 ⟨rfl, hb2⟩
   go_wp2_with fail
   go_ret2
   exact ⟨hb1.out.trans (hb2.mono hb1.out.size), .inr ⟨by decide, rfl⟩⟩
end Go.Proofs.YtnonfdcbnkdmcaaGreatDoor
namespace Go.Proofs.YtnonfdcbnkdmcaaGreatDoor
open Go.RowKit Go.Mem
open Go.Sto (Ent Lg St)

def FetPost (l : List Ent) (q : Int) (w : World) (e : Ending) (w' : World) : Prop :=
 ∃ a c, e = .returned (.tuple #[.slice a l.length c, .int .i64 q]) ∧ ES (fun b => w.heap.size ≤ b) w' a l.length c l ∧ Below w.heap.size w w'
theorem FetPost.err {q : Int} {w w' : World} (hb : Below w.heap.size w w') : FetPost [] q w (.returned (.tuple #[.slice none 0 0, .int .i64 q])) w' := ⟨none, 0, rfl, ES.nil0 _ _, hb⟩

set_option maxRecDepth 20000 in
set_option maxHeartbeats 1000000 in
theorem Fetch_any (a : Option Addr) (n c : Nat) (s : St) (f fr : Int) (hfr : I64 fr) (w : World) (HT : Tabs w) (H : SV (fun _ => True) w a n c s) :
 Calls Tryz.prog 77 #[.agg #[.int .i64 s.id, .int .i64 s.priv, .slice a n c], .int .i64 f, .int .i64 fr] w (FetPost (Sto.fetchS s f fr).1 (Sto.fetchS s f fr).2 w) := by
 have HT' := Lib.hid HT; have H' := Lib.hid H
 clear HT H
 obtain ⟨sb, hsb⟩ : ∃ sb, Hid (w.heap.size = sb) := ⟨_, rfl⟩
 have hB1 : Hid (Blk (w.alloc (.cells #[.int .i64 s.id, .int .i64 s.priv, .slice a n c] 24)) sb 24 (stC s a n c)) := by rw [← hsb.out]; exact Blk.new w _ (stC s a n c)
 have hb1 : Hid (Below w.heap.size w (w.alloc (.cells #[.int .i64 s.id, .int .i64 s.priv, .slice a n c] 24))) := (Below.refl _ w).alloc (Nat.le_refl _) _
 have hop := Lib.hid (fun W (hW : Below w.heap.size w W) => open_any (fun _ => True) a n c s f W (HT'.out.below hW) (H'.out.below hW))
 have b0 := hB1.out.at_ (i := 0) rfl
 have b1 := hB1.out.at_ (i := 1) rfl
 have b2 := hB1.out.at_ (i := 2) rfl
 obtain ⟨fl, fh⟩ := hfr
 by_cases hq : Sto.openE s f = 0
 · have hlb : Sto.logsB (-1) s.logs = true := (Sto.chkS_iff s).1 ((Sto.openE_iff s f).1 hq).1 |>.2
   have hen := Lib.hid (fun bb W hW => entries_any (fun _ => True) bb s f W hW hlb)
   have hv : Sto.fetchS s f fr = if 1 ≤ fr ∧ fr ≤ (Sto.ents s f).length + 1 then ((Sto.ents s f).drop (fr - 1).toNat, 0) else ([], 1) := by simp [Sto.fetchS, hq]
   rw [hq] at hop
   rw [hv]
   clear hv hlb hq
   generalize Sto.ents s f = l at *
   by_cases h1 : 1 ≤ fr
   · obtain ⟨j, hfj⟩ : ∃ j : Nat, fr - 1 = (j : Int) := ⟨(fr - 1).toNat, by omega⟩
     by_cases h2 : j ≤ l.length
     · rw [if_pos ⟨h1, by omega⟩, show (fr - 1).toNat = j by omega]
       have j0 : (0 : Int) ≤ (j : Int) := by omega
       have j1 : (j : Int) ≤ (l.length : Int) := by omega
       have hgt : fr ≤ (l.length : Int) + 1 := by omega
       have hjw : IntKind.i64.wrap (j : Int) = (j : Int) := IntWalk.i64_in _ (by omega)
       go_enter Tryz.func77, Tryz.ntmps77
       go_wp2_with fail
       rw [hsb.out]
       generalize World.alloc w _ = W1 at *
       refine (hop.out _ hb1.out).mono ?_
       rintro e w2 ⟨hb2, ⟨_, bb, rfl, hBk⟩ | ⟨hne, _⟩⟩
       case inr => exact absurd rfl hne
       have hb2' := Lib.hid (hb1.out.trans (hb2.mono hb1.out.size))
       have hen2 := Lib.hid (hen.out bb w2 hBk)
       clear hb2 hop hen hBk hB1 hb1 b0 b1 b2
       go_wp2_with fail
       refine hen2.out.mono ?_
       rintro e w3 ⟨ea, ec, rfl, hES, hb3⟩
       have hb3' := Lib.hid (hb2'.out.trans (hb3.mono hb2'.out.size))
       have hES' := Lib.hid hES
       have hle := hES.rs.le
       have hmx := hES.rs.max
       have hbd := hES.bd
       have hle' : (l.length : Int) ≤ (ec : Int) := by omega
       clear hen2 hb3 hb2'
       cases ea with
       | none =>
        obtain ⟨hn0, hc0⟩ := hES.rs.nil' rfl
        have hl0 : l = [] := List.eq_nil_of_length_eq_zero hn0
        subst hl0 hc0
        obtain rfl : j = 0 := by simpa using h2
        have hcl := Lib.hid (fun W => clones_any (fun _ => True) none 0 0 [] W (ES.nil0 _ _))
        go_wp2_with fail
        refine (hcl.out _).mono ?_
        rintro e w4 ⟨a4, c4, rfl, hES4, hb4⟩
        have hfin : Hid (FetPost [] 0 w (.returned (.tuple #[.slice a4 0 c4, .int .i64 0])) w4) := ⟨a4, c4, rfl, hES4.imp fun b _ h => Nat.le_trans hb3'.out.size h, hb3'.out.trans (hb4.mono hb3'.out.size)⟩
        clear hES4 hb4 hcl hb3' hES' hES
        go_wp2_with fail
        go_ret2
        exact hfin.out
       | some ad =>
        by_cases hl0 : l.length = 0
        · have hnil : l = [] := List.eq_nil_of_length_eq_zero hl0
          subst hnil
          obtain rfl : j = 0 := by simpa using h2
          have hcl := Lib.hid (clones_any (fun _ => True) (some ad) 0 ec [] w3 hES)
          clear hES
          go_wp2_with fail
          refine hcl.out.mono ?_
          rintro e w4 ⟨a4, c4, rfl, hES4, hb4⟩
          have hfin : Hid (FetPost [] 0 w (.returned (.tuple #[.slice a4 0 c4, .int .i64 0])) w4) := ⟨a4, c4, rfl, hES4.imp fun b _ h => Nat.le_trans hb3'.out.size h, hb3'.out.trans (hb4.mono hb3'.out.size)⟩
          clear hES4 hb4 hcl hb3' hES'
          go_wp2_with fail
          go_ret2
          exact hfin.out
        · obtain ⟨b, off, e1, _, _⟩ := hES.rs.block_lt (by omega)
          cases e1
          have hcut := hES.rs.cut (k := j) h2
          have hcl := Lib.hid (clones_any (fun _ => True) _ _ _ _ w3 ⟨hcut, by omega⟩)
          obtain ⟨nl, hnl⟩ : ∃ nl, Hid (l.length = nl) := ⟨_, rfl⟩
          have hdl : Hid ((l.drop j).length = nl - j) := by show _ = _; rw [List.length_drop, hnl.out]
          obtain ⟨L2, hL2⟩ : ∃ L2, Hid (l.drop j = L2) := ⟨_, rfl⟩
          rw [hnl.out] at hcl hle hle' hbd j1 h2 ⊢
          rw [hL2.out] at hcl hdl ⊢
          clear hcut hES hES' hl0 hmx
          rw [hnl.out] at hgt
          have hd1 : decide (fr < 1) = false := decide_eq_false (by omega)
          have hd2 : decide ((nl : Int) + 1 < fr) = false := decide_eq_false (by omega)
          by_cases hej : ec = j
          · rw [if_pos hej] at hcl
            subst hej
            obtain rfl : nl = ec := by omega
            rw [Nat.sub_self] at hcl hdl
            go_wp2_with fail
            refine hcl.out.mono ?_
            rintro e w4 ⟨a4, c4, rfl, hES4, hb4⟩
            have hfin : Hid (FetPost L2 0 w (.returned (.tuple #[.slice a4 0 c4, .int .i64 0])) w4) := ⟨a4, c4, by rw [hdl.out], by rw [hdl.out]; exact hES4.imp fun b _ h => Nat.le_trans hb3'.out.size h, hb3'.out.trans (hb4.mono hb3'.out.size)⟩
            clear hES4 hb4 hcl hb3'
            go_wp2_with fail
            go_ret2
            rw [hL2.out]
            exact hfin.out
          · rw [if_neg hej] at hcl
            go_wp2_with fail
            refine hcl.out.mono ?_
            rintro e w4 ⟨a4, c4, rfl, hES4, hb4⟩
            have hfin : Hid (FetPost L2 0 w (.returned (.tuple #[.slice a4 (nl - j) c4, .int .i64 0])) w4) := ⟨a4, c4, by rw [hdl.out], by rw [hdl.out]; exact hES4.imp fun b _ h => Nat.le_trans hb3'.out.size h, hb3'.out.trans (hb4.mono hb3'.out.size)⟩
            clear hES4 hb4 hcl hb3'
            go_wp2_with fail
            go_ret2
            rw [hL2.out]
            exact hfin.out
     · rw [if_neg (by omega)]
       have hgt : (l.length : Int) + 1 < fr := by omega
       go_enter Tryz.func77, Tryz.ntmps77
       go_wp2_with fail
       rw [hsb.out]
       generalize World.alloc w _ = W1 at *
       refine (hop.out _ hb1.out).mono ?_
       rintro e w2 ⟨hb2, ⟨_, bb, rfl, hBk⟩ | ⟨hne, _⟩⟩
       case inr => exact absurd rfl hne
       have hb2' := Lib.hid (hb1.out.trans (hb2.mono hb1.out.size))
       have hen2 := Lib.hid (hen.out bb w2 hBk)
       clear hb2 hop hen hBk hB1 hb1 b0 b1 b2
       go_wp2_with fail
       refine hen2.out.mono ?_
       rintro e w3 ⟨ea, ec, rfl, hES, hb3⟩
       have hb3' := Lib.hid (hb2'.out.trans (hb3.mono hb2'.out.size))
       have hbd := hES.bd
       clear hen2 hb3 hb2' hES
       go_wp2_with fail
       go_ret2
       exact FetPost.err hb3'.out
   · rw [if_neg (fun h => h1 h.1)]
     have hlt : fr < 1 := by omega
     go_enter Tryz.func77, Tryz.ntmps77
     go_wp2_with fail
     rw [hsb.out]
     generalize World.alloc w _ = W1 at *
     refine (hop.out _ hb1.out).mono ?_
     rintro e w2 ⟨hb2, ⟨_, bb, rfl, hBk⟩ | ⟨hne, _⟩⟩
     case inr => exact absurd rfl hne
     have hb2' := Lib.hid (hb1.out.trans (hb2.mono hb1.out.size))
     have hen2 := Lib.hid (hen.out bb w2 hBk)
     clear hb2 hop hen hBk hB1 hb1 b0 b1 b2
     go_wp2_with fail
     refine hen2.out.mono ?_
     rintro e w3 ⟨ea, ec, rfl, hES, hb3⟩
     have hb3' := Lib.hid (hb2'.out.trans (hb3.mono hb2'.out.size))
     clear hen2 hb3 hb2' hES
     go_wp2_with fail
     go_ret2
     exact FetPost.err hb3'.out
 · have hv : Sto.fetchS s f fr = ([], Sto.openE s f) := by simp [Sto.fetchS, hq]
   rw [hv]
   clear hv
   generalize Sto.openE s f = q at *
   have hqq : (q == 0) = false := by simpa using hq
   go_enter Tryz.func77, Tryz.ntmps77
   go_wp2_with fail
   rw [hsb.out]
   generalize World.alloc w _ = W1 at *
   refine (hop.out _ hb1.out).mono ?_
   rintro e w2 ⟨hb2, ⟨h0, _⟩ | ⟨hne, rfl⟩⟩
   case inl => exact absurd h0 hq
   go_wp2_with fail
   go_ret2
   exact FetPost.err (hb1.out.trans (hb2.mono hb1.out.size))
end Go.Proofs.YtnonfdcbnkdmcaaGreatDoor
namespace Go.Proofs.YtnonfdcbnkdmcaaGreatDoor
open Go.RowKit Go.Mem
open Go.Sto (Ent Lg St)

set_option maxRecDepth 20000 in
set_option maxHeartbeats 1000000 in
theorem put1_any (db : Nat) (d : List Nat) (hd : Dig d) (e : Ent) (he : Dig e.dig) (a : Option Addr) (n c : Nat) (r : List Value) (hr : r = entC e a n c) (w : World) (H : Blk w db 32 (bv d)) :
 Calls Tryz.prog 73 #[.agg r.toArray, .pointer (some ⟨db, 0, none⟩)] w (RetBo (decide (e.dig = d)) w) := by
 have heq := fun W => eq_dig he hd W
 have hG : EntB (w.alloc (.cells r.toArray 75)) w.heap.size e a n c := EntB.of (t := 75) (by rw [← hr]; exact Blk.new w _ r) he.1
 have hDr : Hid ((w.alloc (.cells r.toArray 75)).rangeAt db 0 (bv d)) := (H.alloc _).range
 have hdr := Lib.hid hG.dig
 have hdi : Hid ((Tryz.prog.info? 32).map (·.size) = some (bv e.dig).length) := by show _ = _; rw [bv_length, he.1]; exact size35
 have hdi2 : Hid ((Tryz.prog.info? 32).map (·.size) = some (bv d).length) := by show _ = _; rw [bv_length, hd.1]; exact size35
 have hb : Hid (Below w.heap.size w (w.alloc (.cells r.toArray 75))) := (Below.refl _ w).alloc (Nat.le_refl _) _
 clear hG H hr
 generalize hq : decide (e.dig = d) = q at *
 go_enter Tryz.func73, Tryz.ntmps73
 go_wp2_with (first
  | (refine wpList_load_mid (by rfl) 32 (.tmp 4) (by rfl) w.heap.size 1 (by rfl) (bv e.dig) _ hdr.out Tryz.underlying32 (by rfl) hdi.out ?_)
   | (refine wpList_load_mid (by rfl) 32 (.tmp 1) (by rfl) db 0 (by rfl) (bv d) _ hDr.out Tryz.underlying32 (by rfl) hdi2.out ?_))
 go_ret
 exact ⟨rfl, hb.out⟩

def idxI (d : List Nat) (l : List Ent) : Int := if Sto.idxE d l < l.length then Sto.idxE d l else -1
theorem idxI_at {d : List Nat} {l : List Ent} {i : Nat} {e : Ent} (h : l[i]? = some e) (hd : e.dig = d) (hn : ∀ (j : Nat) x, j < i → l[j]? = some x → x.dig ≠ d) : idxI d l = i := by
 unfold idxI
 rw [Sto.idxE_at h hd hn, if_pos (List.getElem?_eq_some_iff.1 h).1]
theorem idxI_none {d : List Nat} {l : List Ent} (hn : ∀ (j : Nat) x, l[j]? = some x → x.dig ≠ d) : idxI d l = -1 := by
 unfold idxI
 rw [if_neg]
 intro h
 obtain ⟨e, he, hd⟩ := Sto.idxE_lt h
 exact hn _ e he hd

set_option maxRecDepth 20000 in
set_option maxHeartbeats 1000000 in
theorem indexE_any (K : Nat → Prop) (a : Option Addr) (n c : Nat) (l : List Ent) (db : Nat) (d : List Nat) (hd : Dig d) (w : World) (H : ES K w a n c l) (HB : Blk w db 32 (bv d)) :
 Calls Tryz.prog 72 #[.slice a n c, .func (.func 73) #[] #[.pointer (some ⟨db, 0, none⟩)]] w (RetI (idxI d l) w) := by
 have hlen := H.rs.len
 have hbd := H.bd
 have n63 : (n : Int) ≤ 100000 := by omega
 have H' := Lib.hid H; have HB' := Lib.hid HB; have hd' := Lib.hid hd
 clear H HB hd
 go_enter Tryz.func72, Tryz.ntmps72
 go_wp2_with fail
 go_loopw [8] (fun i wr => ∃ k : Nat, k ≤ n ∧ i = .int .i64 k ∧ Hid (∀ (j : Nat) x, j < k → l[j]? = some x → x.dig ≠ d) ∧ Hid (Below w.heap.size w wr)) (fun i _ => n - (intOf i).toNat)
 case atStart => exact ⟨0, Nat.zero_le _, rfl, fun _ _ h => absurd h (by omega), Below.refl _ _⟩
 case round =>
  obtain ⟨k, hk, rfl, hno, hb⟩ := hrel
  by_cases hlt : k < n
  · have hkl : k < l.length := by omega
    obtain ⟨e, he⟩ : ∃ e, l[k]? = some e := ⟨_, List.getElem?_eq_getElem hkl⟩
    obtain ⟨b, off, r, rfl, hbl, _, ⟨ho, da, dn, dc, er, hbk⟩, hrl, hrg⟩ := (H'.out.below hb.out).rs.get he
    have hri : Hid ((Tryz.prog.info? 75).map (·.size) = some r.length) := by show _ = _; rw [hrl]; exact sizeE
    have hrg' := Lib.hid hrg
    have hcl := Lib.hid (put1_any db d hd'.out e ⟨ho.dig, ho.lt⟩ da dn dc r er wr (HB'.out.below hb.out HB'.out.lt))
    have he' := Lib.hid he
    have k0 : (0 : Int) ≤ (k : Int) := by omega
    have k1 : (k : Int) < (n : Int) := by omega
    clear he hrg hrl er hbk ho
    by_cases hde : e.dig = d
    · rw [decide_eq_true hde] at hcl
      have hfin : Hid (idxI d l = (k : Int)) := idxI_at he'.out hde hno.out
      clear hde hno
      go_wp2_with (first
       | (refine wpList_load_mid (by rfl) 75 (.tmp 14) (by rfl) b (off + k * 35) (by rfl) r _ hrg'.out Tryz.underlying75 (by rfl) hri.out ?_))
      refine hcl.out.mono ?_
      rintro e2 w2 ⟨rfl, hb2⟩
      go_wp2_with fail
      go_ret
      exact ⟨by rw [hfin.out]; rfl, hb.out.trans (hb2.mono hb.out.size)⟩
    · rw [decide_eq_false hde] at hcl
      have hno2 : Hid (∀ (j : Nat) x, j < k + 1 → l[j]? = some x → x.dig ≠ d) := fun j x hj hx => by
       by_cases hjk : j = k
       · subst hjk; rw [he'.out] at hx; cases hx; exact hde
       · exact hno.out j x (by omega) hx
      clear hde hno
      go_wp2_with (first
       | (refine wpList_load_mid (by rfl) 75 (.tmp 14) (by rfl) b (off + k * 35) (by rfl) r _ hrg'.out Tryz.underlying75 (by rfl) hri.out ?_))
      refine hcl.out.mono ?_
      rintro e2 w2 ⟨rfl, hb2⟩
      have hb3 := Lib.hid (hb.out.trans (hb2.mono hb.out.size))
      go_wp2_with fail
      go_roundw
      case rel => exact ⟨k + 1, by omega, by go_num, hno2, hb3⟩
      case measure => simp [intOf]; omega
  · obtain rfl : k = n := by omega
    have hfin : Hid (idxI d l = -1) := idxI_none fun j x hx => hno.out j x (by have := (List.getElem?_eq_some_iff.1 hx).1; omega) hx
    clear hno
    go_wp2_with fail
    go_ret
    exact ⟨by rw [hfin.out]; rfl, hb.out⟩

theorem clip_any (a : Option Addr) (n c : Nat) (hn : n ≤ c) (hc : c ≤ 9223372036854775807) (hs : a = none → n = 0 ∧ c = 0) (w : World) :
 Calls Tryz.prog 75 #[.slice a n c] w fun e w' => e = .returned (.slice a n n) ∧ w' = w := by
 have n0 : (0 : Int) ≤ (n : Int) := by omega
 have n1 : (n : Int) ≤ (c : Int) := by omega
 cases a with
 | none =>
  obtain ⟨rfl, rfl⟩ := hs rfl
  go_enter Tryz.func75, Tryz.ntmps75
  go_wp2_with fail
  go_ret
  exact ⟨rfl, rfl⟩
 | some ad =>
  go_enter Tryz.func75, Tryz.ntmps75
  go_wp2_with fail
  go_ret
  exact ⟨rfl, rfl⟩
end Go.Proofs.YtnonfdcbnkdmcaaGreatDoor
namespace Go.Proofs.YtnonfdcbnkdmcaaGreatDoor
open Go.RowKit Go.Mem
open Go.Sto (Ent Lg St)

theorem as_range {d : List Nat} (h : d.length = 32) : d = (List.range 32).map fun i => d.getD i 0 := by
 apply List.ext_getElem?
 intro i
 simp only [List.getElem?_map]
 by_cases hi : i < 32
 · rw [List.getElem?_eq_getElem (by omega), List.getElem?_range hi]
   simp [List.getD, List.getElem?_eq_getElem (show i < d.length by omega)]
 · rw [List.getElem?_eq_none (by omega), List.getElem?_eq_none (by simpa using hi)]
   rfl

theorem build_range (f : Nat → Nat) (k : Int) (a : Option Addr) (n c : Nat) (W : World) :
 (Instr.build 75 #[(0, .int .i64 k), (1, .agg (bv ((List.range 32).map f)).toArray), (2, .slice a n c)]).run Tryz.prog W = .ok (.agg (entC ⟨k, (List.range 32).map f, [], false⟩ a n c).toArray) W := run_build W _ _ _ (by kernel_rfl)
theorem row_range (f : Nat → Nat) (k : Int) (a : Option Addr) (n c : Nat) (g : Bool) (W : World) :
 (Instr.buildSlice 30 1 #[(0, .agg (entC ⟨k, (List.range 32).map f, [], g⟩ a n c).toArray)]).run Tryz.prog W = .ok (.slice (some ⟨W.heap.size, 0, none⟩) 1 1) (W.alloc (.cells (entC ⟨k, (List.range 32).map f, [], g⟩ a n c).toArray 75)) := by kernel_rfl
theorem build_ent {d : List Nat} (h : d.length = 32) (k : Int) (data : List Nat) (a : Option Addr) (n c : Nat) (W : World) :
 (Instr.build 75 #[(0, .int .i64 k), (1, .agg (bv d).toArray), (2, .slice a n c)]).run Tryz.prog W = .ok (.agg (entC ⟨k, d, data, false⟩ a n c).toArray) W := by
 rw [as_range h]
 exact build_range _ k a n c W
theorem row_ent {e : Ent} (h : e.dig.length = 32) (a : Option Addr) (n c : Nat) (W : World) :
 (Instr.buildSlice 30 1 #[(0, .agg (entC e a n c).toArray)]).run Tryz.prog W = .ok (.slice (some ⟨W.heap.size, 0, none⟩) 1 1) (W.alloc (.cells (entC e a n c).toArray 75)) := by
 obtain ⟨k, d, data, g⟩ := e
 simp only [] at h
 have := row_range (fun i => d.getD i 0) k a n c g W
 rw [← as_range h] at this
 exact this

theorem results_cell_tmp2 {P : Program} {fn : Func} {p u v : Tmp} {ty : TypeId} (h : fn.results = #[.cell p ty, .tmp u, .tmp v]) (tmps : Array Value) (w : World) :
 (results fn tmps).run P w =
   ((asAddr (tmps.getD p undef)).run P w).andThen fun a w₁ => ((loadVar ty a).run P w₁).andThen fun x w₂ => .ok (.tuple #[x, tmps.getD u undef, tmps.getD v undef]) w₂ := by
 simp only [results, h]
 simp [Sem.run_bind, Result.andThen]

def PuttPost (s : St) (no q : Int) (w : World) (e : Ending) (w' : World) : Prop :=
 ∃ a c, e = .returned (.tuple #[.agg #[.int .i64 s.id, .int .i64 s.priv, .slice a s.logs.length c], .int .i64 no, .int .i64 q]) ∧ SV (fun b => w.heap.size ≤ b) w' a s.logs.length c s ∧ Below w.heap.size w w'

theorem i64_0 : I64 0 := ⟨by decide, by decide⟩
theorem SV.zero (K : Nat → Prop) (w : World) : SV K w none 0 0 Sto.zeroS := ⟨LS.nil0 _ _, i64_0, i64_0⟩
theorem PuttPost.err {no q : Int} {w w' : World} (hb : Below w.heap.size w w') : PuttPost Sto.zeroS no q w (.returned (.tuple #[.agg #[.int .i64 0, .int .i64 0, .slice none 0 0], .int .i64 no, .int .i64 q])) w' := ⟨none, 0, rfl, SV.zero _ _, hb⟩

theorem put_ret {W : World} {tb : Nat} {x0 x1 x2 : Value} {n e : Int} (hB : Blk W tb 24 [x0, x1, x2]) {a : Act} (hp : a.tmps.getD 8 undef = .pointer (some ⟨tb, 0, none⟩)) (h9 : a.tmps.getD 9 undef = .int .i64 n) (hq : a.tmps.getD 10 undef = .int .i64 e) (hd : a.defers = []) {Post : Ending → World → Prop} (hP : Post (.returned (.tuple #[.agg #[x0, x1, x2], .int .i64 n, .int .i64 e])) W) :
 bodyPost Tryz.prog Tryz.f35 Post .ret a W := by
 have c0 := hB.at_ (i := 0) rfl
 have c1 := hB.at_ (i := 1) rfl
 have c2 := hB.at_ (i := 2) rfl
 refine bodyPost_ret (v := .tuple #[.agg #[x0, x1, x2], .int .i64 n, .int .i64 e]) ?_ hd hP
 rw [results_cell_tmp2 rfl, hp, h9, hq]
 simp [go_sem, c0, c1, c2]

theorem put_fin {w wa w5 : World} {tb : Nat} {s : St} {a : Option Addr} {c : Nat} (no q : Int) (hS : SV (fun b => wa.heap.size ≤ b) w5 a s.logs.length c s) (hb : Below w.heap.size w w5) (htb : w.heap.size ≤ tb) (hta : tb < wa.heap.size) :
 PuttPost s no q w (.returned (.tuple #[.agg #[.int .i64 s.id, .int .i64 s.priv, .slice a s.logs.length c], .int .i64 no, .int .i64 q])) (((w5.setCell ⟨tb, 0, none⟩ (.int .i64 s.id)).setCell ⟨tb, 1, none⟩ (.int .i64 s.priv)).setCell ⟨tb, 2, none⟩ (.slice a s.logs.length c)) :=
 ⟨a, c, rfl, ((hS.imp (K' := fun b => w.heap.size ≤ b ∧ b ≠ tb) fun b _ h => ⟨by omega, by omega⟩).keep (copied_keeps _ _ _ _ _)).imp fun b _ h => h.1, ((hb.setCell htb _).setCell htb _).setCell htb _⟩

theorem put_es {K : Nat → Prop} {w w' : World} {B n : Nat} {l : List Ent} {rows : List (List Value)} {e : Ent} {a : Option Addr} {m c : Nat} {v : Value}
 (hO : RowsOf 35 (EV K w) l rows) (ho : OkE e) (hd : BW w a m c e.data) (hb : Below w.heap.size w w') (hn : n + 1 ≤ 100000) (hl : l.length = n)
 (hown : w'.ownsRow B 75 35 v (n + 1) (rows.flatten ++ entC e a m c)) :
 ∃ a2 c2, v = .slice a2 (n + 1) c2 ∧ ES (fun _ => True) w' a2 (n + 1) c2 (l ++ [e]) := by
 obtain ⟨a2, c2, rfl, hR, hsep⟩ := Sl.of_owns hown
 have hO2 : RowsOf 35 (EV (fun _ => True) w') l rows := hO.imp fun e r h => (h.imp fun _ _ _ => trivial).keep (.below hb)
 have hO3 := hO2.append (RowsOf.one (e := e) (r := entC e a m c) ⟨ho, a, m, c, rfl, (hd.below hb).bk⟩ (entC_length ho.dig _ _ _))
 refine ⟨a2, c2, rfl, ⟨by simp [hl], fun _ _ _ => trivial, _, ?_, hO3⟩, hn⟩
 rw [List.flatten_append, List.flatten_singleton]
 exact hR

section
variable {P : Program} {ops : Array Oper} {S : World → Prop} {o : Oper} {a : Act} {v : Value}
theorem hold_move (hw : Region.wanted o (yielded ops a.tmps) = true) (x : Operand) (h : o.op = .move x) : YieldsIf P ops S o (a.eval x) a := .inl ⟨hw, fun w _ => by unfold execOp; simp only [h]; simp⟩
theorem hold_build (hw : Region.wanted o (yielded ops a.tmps) = true) (t : TypeId) (parts : Array (Nat × Operand)) (h : o.op = .build t parts) (ps : Array (Nat × Value)) (hp : (parts.map fun (i, x) => (i, a.eval x)) = ps) (hr : ∀ W, (Instr.build t ps).run P W = .ok v W) : YieldsIf P ops S o v a :=
 .inl ⟨hw, fun w _ => by unfold execOp; simp only [h, hp, Sem.run_bind, hr, Result.andThen_ok, Sem.run_pure]⟩
theorem wp_buildSlice_run {w w' : World} {K : Act → World → Prop} {Q : Exit → Act → World → Prop} (t : TypeId) (n : Nat) (parts : Array (Nat × Operand)) (h : o.op = .buildSlice t n parts) (ps : Array (Nat × Value)) (hp : (parts.map fun (i, x) => (i, a.eval x)) = ps) (hr : (Instr.buildSlice t n ps).run P w = .ok v w') (hK : K (a.put o.dst v) w') : o.wp P a w K Q := by
 unfold Oper.wp execOp
 simp only [h, hp, Sem.run_bind, hr, Result.andThen_ok, Sem.run_pure]
 exact hK
end

theorem reads_holds {w W : World} {a : Option Addr} {n c sz : Nat} {xs : List Value} (h : Sl.Reads w a n c sz xs) (hb : Below w.heap.size w W) : ∀ b, a = some b → ∀ j u, xs[j]? = some u → W.cell? (b.add j) = some u := fun b e => by
 subst e
 exact (h.below hb (Nat.le_refl _)).news
theorem new_cells (W : World) (t : TypeId) (r : List Value) : ∀ (j : Nat) u, r[j]? = some u → (W.alloc (.cells r.toArray t)).cell? ((⟨W.heap.size, 0, none⟩ : Addr).add j) = some u := fun j u hj => by
 rw [Addr.add_lit, Nat.zero_add]
 exact (Blk.new W t r).at_ hj
theorem PutS.right {w6 W : World} {db : Nat} {cs : List Value} (h : W.rangeAt db 0 cs ∧ Below w6.heap.size w6 W) : Below w6.heap.size w6 W := h.2
theorem PutS.drew {w6 W : World} {db : Nat} {cs : List Value} (h : W.rangeAt db 0 cs ∧ Below w6.heap.size w6 W) : W.drew.rangeAt db 0 cs ∧ Below w6.heap.size w6 W.drew := ⟨h.1, h.2.drew⟩
theorem PutS.next {w6 W W' : World} {db : Nat} {cs : List Value} (hd : db < w6.heap.size) (h : W.rangeAt db 0 cs ∧ Below w6.heap.size w6 W) (hb : Below W.heap.size W W') : W'.rangeAt db 0 cs ∧ Below w6.heap.size w6 W' :=
 ⟨fun j v hv => (hb.cell (p := ⟨db, _, none⟩) (Nat.lt_of_lt_of_le hd h.2.size)).trans (h.1 j v hv), h.2.trans (hb.mono h.2.size)⟩
theorem PutS.alloc {w6 W : World} {db : Nat} {cs : List Value} (hd : db < w6.heap.size) (h : W.rangeAt db 0 cs ∧ Below w6.heap.size w6 W) (o : Obj) : (W.alloc o).rangeAt db 0 cs ∧ Below w6.heap.size w6 (W.alloc o) := PutS.next hd h ((Below.refl _ _).alloc (Nat.le_refl _) _)
theorem PutS.grown {w6 W W' : World} {db : Nat} {cs : List Value} (hd : db < w6.heap.size) (h : W.rangeAt db 0 cs ∧ Below w6.heap.size w6 W) (hg : W.grownBy W' none) : W'.rangeAt db 0 cs ∧ Below w6.heap.size w6 W' := PutS.next hd h ((Below.refl _ W).grown hg (Nat.le_refl _) (fun r e => by cases e))

set_option maxRecDepth 20000 in
set_option maxHeartbeats 4000000 in
theorem Put_any (a : Option Addr) (n c : Nat) (s : St) (f kind : Int) (hf : I64 f) (hk : I64 kind) (da : Option Addr) (dn dc : Nat) (data : List Nat) (w : World) (HT : Tabs w) (H : SV (fun _ => True) w a n c s) (HD : BW w da dn dc data) (hdn : dn ≤ 1000000) :
 Calls Tryz.prog 35 #[.agg #[.int .i64 s.id, .int .i64 s.priv, .slice a n c], .int .i64 f, .int .i64 kind, .slice da dn dc] w (PuttPost (Sto.putS s f kind data).1 (Sto.putS s f kind data).2.1 (Sto.putS s f kind data).2.2 w) := by
 have HT' := Lib.hid HT; have H' := Lib.hid H; have HD' := Lib.hid HD
 clear HT H HD
 obtain ⟨sb, hsb⟩ : ∃ sb, Hid (w.heap.size = sb) := ⟨_, rfl⟩
 obtain ⟨W1, hW1⟩ : ∃ W, Hid ((w.alloc (.cells #[.int .i64 s.id, .int .i64 s.priv, .slice a n c] 24)).alloc (.cells #[.int .i64 0, .int .i64 0, .slice none 0 0] 24) = W) := ⟨_, rfl⟩
 have hsB : Hid (Blk W1 sb 24 (stC s a n c)) := by rw [← hW1.out, ← hsb.out]; exact (Blk.new w _ (stC s a n c)).alloc _
 have htB : Hid (Blk W1 (sb + 1) 24 [.int .i64 0, .int .i64 0, .slice none 0 0]) := by
  have := Blk.new (w.alloc (.cells #[.int .i64 s.id, .int .i64 s.priv, .slice a n c] 24)) 24 [.int .i64 0, .int .i64 0, .slice none 0 0]
  rw [show (w.alloc (.cells #[.int .i64 s.id, .int .i64 s.priv, .slice a n c] 24)).heap.size = sb + 1 by rw [← hsb.out]; simp] at this
  rw [← hW1.out]; exact this
 have hb1 : Hid (Below w.heap.size w W1) := by rw [← hW1.out]; exact ((Below.refl _ w).alloc (Nat.le_refl _) _).alloc (by simp) _
 have hop := Lib.hid (fun W (hW : Below w.heap.size w W) => open_any (fun _ => True) a n c s f W (HT'.out.below hW) (H'.out.below hW))
 have b0 := hsB.out.at_ (i := 0) rfl
 have b1 := hsB.out.at_ (i := 1) rfl
 have b2 := hsB.out.at_ (i := 2) rfl
 have hle : Hid (w.heap.size ≤ sb + 1) := by show _ ≤ _; rw [hsb.out]; omega
 by_cases hq : Sto.openE s f = 0
 · have hlb : Sto.logsB (-1) s.logs = true := (Sto.chkS_iff s).1 ((Sto.openE_iff s f).1 hq).1 |>.2
   have hlf := Sto.ents_fine ((Sto.openE_iff s f).1 hq).1 f
   rw [hq] at hop
   have hik := Lib.hid (fun W => isKind_any kind W)
   cases hkd : Sto.kindB kind with
   | true =>
    rw [hkd] at hik
    have hen := Lib.hid (fun bb W hW => entries_any (fun _ => True) bb s f W hW hlb)
    have hdg := Lib.hid (fun W (hW : Below w.heap.size w W) => digest_any kind hk da dn dc data W (HT'.out.below hW) (HD'.out.below hW) (by omega))
    have hDD : Dig (Sto.entD kind data) := ⟨Sha.tagged_length _ _, Sha.tagged_lt _ _⟩
    have hvs := Lib.hid (show Sto.putS s f kind data = if Sto.idxE (Sto.entD kind data) (Sto.ents s f) < (Sto.ents s f).length then (s, (Sto.idxE (Sto.entD kind data) (Sto.ents s f) : Int) + 1, 0) else if (Sto.ents s f).length = 65536 then (Sto.zeroS, 0, 2) else (Sto.replS s f (Sto.ents s f ++ [⟨kind, Sto.entD kind data, data, false⟩]), ((Sto.ents s f).length : Int) + 1, 0) by simp [Sto.putS, hq, hkd, Sto.putE])
    obtain ⟨D, hD⟩ : ∃ D, Hid (Sto.entD kind data = D) := ⟨_, rfl⟩
    have hdg' : Hid (∀ W, Below w.heap.size w W → Calls Tryz.prog 71 #[.int .i64 kind, .slice da dn dc] W (DigPost D W)) := by show ∀ W, _ → _; rw [← hD.out]; exact hdg.out
    rw [hD.out] at hvs hDD
    have hok : Hid (OkE ⟨kind, D, data, false⟩) := ⟨hDD.1, hDD.2, hk.1, hk.2, by have := HD'.out.len; show data.length ≤ _; omega⟩
    have hlb' := Lib.hid hlb
    obtain ⟨X, hX⟩ : ∃ X, Hid (Sto.putS s f kind data = X) := ⟨_, rfl⟩
    rw [hX.out] at hvs ⊢
    clear hdg hq hlb hkd
    generalize Sto.ents s f = l at *
    go_enter Tryz.func35, Tryz.ntmps35
    go_wp2_with fail
    rw [hsb.out, hW1.out]
    refine (hop.out _ hb1.out).mono ?_
    rintro e w2 ⟨hb2, ⟨_, bb, rfl, hBk⟩ | ⟨hne, _⟩⟩
    case inr => exact absurd rfl hne
    have htB2 := Lib.hid (htB.out.below hb2 htB.out.lt)
    have hsB2 := Lib.hid (hsB.out.below hb2 hsB.out.lt)
    have hb2' := Lib.hid (hb1.out.trans (hb2.mono hb1.out.size))
    have hBk' := Lib.hid hBk
    have hen2 := Lib.hid (hen.out bb w2 hBk)
    clear hb2 hBk hop htB hb1 hsB b0 b1 b2 hen
    go_wp2_with fail
    refine (hik.out _).mono ?_
    rintro e w2' ⟨rfl, rfl⟩
    go_wp2_with fail
    refine hen2.out.mono ?_
    rintro e w3 ⟨ea, ec, rfl, hES, hb3⟩
    have hb3' := Lib.hid (hb2'.out.trans (hb3.mono hb2'.out.size))
    have htB3 := Lib.hid (htB2.out.below hb3 htB2.out.lt)
    have hsB3 := Lib.hid (hsB2.out.below hb3 hsB2.out.lt)
    have hBk3 := Lib.hid (hBk'.out.below hb3)
    have hES' := Lib.hid hES
    clear hen2 hb3 hb2' htB2 hsB2 hBk' hES hik
    go_wp2_with fail
    refine (hdg'.out _ hb3'.out).mono ?_
    rintro e w4 ⟨rfl, hb4⟩
    have hb4' := Lib.hid (hb3'.out.trans (hb4.mono hb3'.out.size))
    obtain ⟨W5, hP⟩ := put_dig (x := D) (Blk.new w4 32 (bv (List.replicate 32 0))) (by simp) hDD.1
    have hb45 : Below w4.heap.size w4 W5 := below_grown ((Below.refl _ w4).alloc (Nat.le_refl _) _) hP.grown (by simp) (Nat.le_refl _)
    have hb35 := Lib.hid (hb4.trans (hb45.mono hb4.size))
    have hb5 := Lib.hid (hb3'.out.trans (hb35.out.mono hb3'.out.size))
    have htB5 := Lib.hid (htB3.out.below hb35.out htB3.out.lt)
    have hsB5 := Lib.hid (hsB3.out.below hb35.out hsB3.out.lt)
    have hBk5 := Lib.hid (hBk3.out.below hb35.out)
    have hES5 := Lib.hid (hES'.out.below hb35.out)
    have hdB5 := Lib.hid hP.blk
    have hP' := Lib.hid hP
    obtain ⟨db, hdb⟩ : ∃ db, Hid (w4.heap.size = db) := ⟨_, rfl⟩
    have hix := Lib.hid (indexE_any (fun _ => True) ea l.length ec l w4.heap.size D hDD W5 hES5.out hdB5.out)
    have hlen := hES5.out.bd
    clear hP hb4 hb45 hb4' hb3' htB3 hsB3 hBk3 hES' hdg' hb35
    go_wp2_with (first
     | (refine wpList_store_mid (by rfl) 32 (.tmp 13) (.tmp 34) (by rfl) w4.heap.size 0 (bv D).toArray (by rfl) (by rfl) hP'.out.there hP'.out.info (by simpa using hP'.out.one) ?_
        generalize hWq : World.setCells _ _ _ _ = Wa
        obtain rfl : W5 = Wa := by rw [← hWq]; exact hP'.out.eq
        clear hWq))
    refine hix.out.mono ?_
    rintro e w6 ⟨rfl, hb6⟩
    have hb6' := Lib.hid (hb5.out.trans (hb6.mono hb5.out.size))
    have htB6 := Lib.hid (htB5.out.below hb6 htB5.out.lt)
    have hsB6 := Lib.hid (hsB5.out.below hb6 hsB5.out.lt)
    have hBk6 := Lib.hid (hBk5.out.below hb6)
    have hES6 := Lib.hid (hES5.out.below hb6)
    have hdB6 := Lib.hid (hdB5.out.below hb6 hdB5.out.lt)
    rw [hdb.out] at hdB6 ⊢
    clear hix hb6 hb5 htB5 hsB5 hBk5 hES5 hdB5 hP' hdb
    unfold idxI
    by_cases hi : Sto.idxE D l < l.length
    · rw [if_pos hi]
      have hXe : Hid (X = (s, (Sto.idxE D l : Int) + 1, 0)) := by show _ = _; rw [hvs.out, if_pos hi]
      generalize Sto.idxE D l = i at *
      have i0 : (0 : Int) ≤ (i : Int) := by omega
      have i1 : (i : Int) < 100000 := by omega
      have b0 := hsB6.out.at_ (i := 0) rfl
      have b1 := hsB6.out.at_ (i := 1) rfl
      have b2 := hsB6.out.at_ (i := 2) rfl
      have hcop := Lib.hid (copied_any (fun _ => True) a n c s w6 (H'.out.below hb6'.out))
      clear hvs hlf
      go_wp2_with fail
      refine hcop.out.mono ?_
      rintro e w7 ⟨a7, c7, rfl, hS7, hb7⟩
      have htB7 := htB6.out.below hb7 htB6.out.lt
      have t0 := htB7.at_ (i := 0) rfl
      have t1 := htB7.at_ (i := 1) rfl
      have t2 := htB7.at_ (i := 2) rfl
      have u0 := htB7.frozen 0
      have u1 := htB7.frozen 1
      have u2 := htB7.frozen 2
      have hfin := Lib.hid (put_fin ((i : Int) + 1) 0 hS7 (hb6'.out.trans (hb7.mono hb6'.out.size)) hle.out htB6.out.lt)
      have htB7' := Lib.hid htB7
      clear htB7 hS7 hb7 hcop b0 b1 b2
      go_wp2_with fail
      refine put_ret (copied_set htB7'.out _ _ _) rfl rfl rfl rfl ?_
      rw [hXe.out]
      exact hfin.out
    · rw [if_neg hi]
      have hvn := Lib.hid (hvs.out.trans (if_neg hi))
      clear hvs hi
      by_cases hl : l.length = 65536
      · have hXe : Hid (X = (Sto.zeroS, 0, 2)) := by show _ = _; rw [hvn.out, if_pos hl]
        have t0 := htB6.out.at_ (i := 0) rfl
        have t1 := htB6.out.at_ (i := 1) rfl
        have t2 := htB6.out.at_ (i := 2) rfl
        have u0 := htB6.out.frozen 0
        have u1 := htB6.out.frozen 1
        have u2 := htB6.out.frozen 2
        have hl' : (l.length : Int) = 65536 := by omega
        clear hvn
        go_wp2_with fail
        refine put_ret (copied_set htB6.out _ _ _) rfl rfl rfl rfl ?_
        rw [hXe.out]
        exact PuttPost.err (((hb6'.out.setCell hle.out _).setCell hle.out _).setCell hle.out _)
      · have hXe : Hid (X = (Sto.replS s f (l ++ [⟨kind, D, data, false⟩]), (l.length : Int) + 1, 0)) := by show _ = _; rw [hvn.out, if_neg hl]
        have hl' : ((l.length : Int) == 65536) = false := by simpa using (by omega : ¬ (l.length : Int) = 65536)
        have hl2 : l.length < 65536 := by
         rcases hlf with rfl | hlf
         · simp
         · have := ((Sto.fineB_iff l).1 hlf).2.2.2; omega
        obtain ⟨nl, hnl⟩ : ∃ nl, Hid (l.length = nl) := ⟨_, rfl⟩
        rw [hnl.out] at hl' hl2 hES6 hXe hlen ⊢
        obtain ⟨r, hr⟩ : ∃ r, Hid (entC ⟨kind, D, data, false⟩ da dn dc = r) := ⟨_, rfl⟩
        have hbd := fun W => build_ent (d := D) hDD.1 kind data da dn dc W
        have hbs := fun W => row_ent (e := ⟨kind, D, data, false⟩) hDD.1 da dn dc W
        have hrl : r.length = 35 := by rw [← hr.out]; exact entC_length hDD.1 _ _ _
        have hr1 : Hid (∀ u ∈ r, u.oneCell' = true) := by show ∀ u ∈ r, _; rw [← hr.out]; exact entC_one _ _ _ _
        rw [hr.out] at hbs
        have hbd' : ∀ W, (Instr.build 75 #[(0, .int .i64 kind), (1, .agg (bv D).toArray), (2, .slice da dn dc)]).run Tryz.prog W = .ok (.agg r.toArray) W := fun W => by rw [← hr.out]; exact hbd W
        clear hbd hvn hl hlf
        have hcp := Lib.hid (fun W => clip_any ea nl ec hES6.out.rs.le hES6.out.rs.max hES6.out.rs.nil' W)
        obtain ⟨rows, hRd, hRo⟩ := hES6.out.rs.rows
        have hRd' := Lib.hid hRd; have hRo' := Lib.hid hRo
        obtain ⟨i0, hi, hz0, hz1, hz2⟩ := info_parts infoE
        have hdr := hdB6.out.range
        have hdi2 : (Tryz.prog.info? 32).map (·.size) = some (bv D).length := by rw [bv_length, hDD.1]; exact size35
        have hu35 := under35
        have hS : w6.rangeAt db 0 (bv D) ∧ Below w6.heap.size w6 w6 := ⟨hdr, Below.refl _ _⟩
        have hdbl := hdB6.out.lt
        have hb6s := hb6'.out.size
        clear hRd hRo
        go_wp2_with fail
        refine wp_region_held_drew (S := fun wz => wz.rangeAt db 0 (bv D) ∧ Below w6.heap.size w6 wz) (by kernel_rfl) (PutS.drew hS) (fun hHeld => ?_)
        refine tG 0 rfl (hold_move (by rfl) _ rfl) hHeld ?_
        refine tG 2 rfl (hold_move (by rfl) _ rfl) hHeld ?_
        refine tG 3 rfl (yieldsIf_load_mid (by rfl) _ _ rfl db 0 rfl (bv D) _ (fun _ h => h.1) hu35 rfl hdi2) hHeld ?_
        refine tG 4 rfl (hold_move (by rfl) _ rfl) hHeld ?_
        refine tU 5 rfl #[(0, .int .i64 kind), (1, .agg (bv D).toArray), (2, .slice da dn dc)] hbd' hHeld ?_
        refine rd (rs := [1, 6]) ?_
        refine tR rfl (fun K hK => ?_) (tR rfl (fun K hK => ?_) rn)
        case refine_1 =>
         go_simp
         go_at_call 75
         refine (hcp.out _).mono ?_
         rintro e wq ⟨rfl, rfl⟩
         refine hK.out _ _ hHeld (fun hHeld => ?_)
         clear hK K
         try simp only [Act.put, sA, s0, s1]
         refine tO 6 rfl (fun K hK => ?_)
         refine wp_buildSlice_run _ _ _ rfl #[(0, .agg r.toArray)] (by simp only [List.map_toArray, List.map_cons, List.map_nil]; rfl) (hbs _) ?_
         refine hK.out _ _ (PutS.alloc hdbl hHeld _) (fun hHeld => ?_)
         clear hK K
         try simp only [Act.put, sA, s0, s1]
         refine rd (rs := [7]) ?_
         refine AllReadyH.cons (o := ⟨some 55, .call { callee := .builtin .append, args := #[.tmp 49, .tmp 54], argTypes := #[30, 30] }, 30, "store.go:162", #[⟨1, .data⟩, ⟨6, .data⟩, ⟨1, .chain⟩], none⟩) rfl (fun K hK => ?_) AllReadyH.nil
         refine step_append_grows rfl (.tmp 49) (.tmp 54) 30 rfl 75 i0 _ 35 72 Tryz.underlying30 hi hz0 hz1 hz2 rfl (by decide) ea nl nl rows.flatten rfl (fun e => ⟨(hES6.out.rs.nil' e).1, (hES6.out.rs.nil' e).1⟩) hRd'.out.len (reads_holds hRd'.out (PutS.right hHeld)) ⟨w6.heap.size, 0, none⟩ 1 1 r rfl hrl (new_cells w6.drew 75 r) hr1.out (by omega) (by unfold maxLen; omega) (by omega) ?_
         intro v' w' hown hgrow
         refine hK.out _ _ (PutS.grown hdbl hHeld hgrow) (fun hHeld => ?_)
         clear hK K
         try simp only [Act.put, sA, s0, s1]
         rw [← hr.out] at hown
         obtain ⟨a2, c2, hv2, hES7⟩ := put_es hRo'.out hok.out (HD'.out.below hb6'.out) (PutS.right hHeld) (by omega) hnl.out hown
         subst hv2
         refine tG 8 rfl (.inl ⟨by rfl, fun w _ => by unfold execOp; rfl⟩) hHeld ?_
         refine wpAnyH_done (by kernel_rfl) ?_ _
         have hbq := PutS.right hHeld
         have hrp := Lib.hid (replace_any bb s f hf a2 (nl + 1) c2 _ _ (hBk6.out.below hbq) hlb'.out hES7)
         have hbw := Lib.hid (hb6'.out.trans (hbq.mono hb6'.out.size))
         have htBw := Lib.hid (htB6.out.below hbq htB6.out.lt)
         clear hES7 hown hgrow hbq hHeld hbs hbd' hS hdr hdi2
         go_wp2_with fail
         refine hrp.out.mono ?_
         rintro e w8 ⟨a8, c8, rfl, hS8, hb8⟩
         have htB8 := htBw.out.below hb8 htBw.out.lt
         have t0 := htB8.at_ (i := 0) rfl
         have t1 := htB8.at_ (i := 1) rfl
         have t2 := htB8.at_ (i := 2) rfl
         have u0 := htB8.frozen 0
         have u1 := htB8.frozen 1
         have u2 := htB8.frozen 2
         have hfin := Lib.hid (put_fin ((nl : Int) + 1) 0 hS8 (hbw.out.trans (hb8.mono hbw.out.size)) hle.out htBw.out.lt)
         have htB8' := Lib.hid htB8
         clear htB8 hS8 hb8 hrp
         go_wp2_with fail
         refine put_ret (copied_set htB8'.out _ _ _) rfl rfl rfl rfl ?_
         rw [hXe.out]
         exact hfin.out
        case refine_2 =>
         refine wp_buildSlice_run _ _ _ rfl #[(0, .agg r.toArray)] (by simp only [List.map_toArray, List.map_cons, List.map_nil]; rfl) (hbs _) ?_
         refine hK.out _ _ (PutS.alloc hdbl hHeld _) (fun hHeld => ?_)
         clear hK K
         try simp only [Act.put, sA, s0, s1]
         refine tO 1 rfl (fun K hK => ?_)
         go_simp
         go_at_call 75
         refine (hcp.out _).mono ?_
         rintro e wq ⟨rfl, rfl⟩
         refine hK.out _ _ hHeld (fun hHeld => ?_)
         clear hK K
         try simp only [Act.put, sA, s0, s1]
         refine rd (rs := [7]) ?_
         refine AllReadyH.cons (o := ⟨some 55, .call { callee := .builtin .append, args := #[.tmp 49, .tmp 54], argTypes := #[30, 30] }, 30, "store.go:162", #[⟨1, .data⟩, ⟨6, .data⟩, ⟨1, .chain⟩], none⟩) rfl (fun K hK => ?_) AllReadyH.nil
         refine step_append_grows rfl (.tmp 49) (.tmp 54) 30 rfl 75 i0 _ 35 72 Tryz.underlying30 hi hz0 hz1 hz2 rfl (by decide) ea nl nl rows.flatten rfl (fun e => ⟨(hES6.out.rs.nil' e).1, (hES6.out.rs.nil' e).1⟩) hRd'.out.len (reads_holds hRd'.out (PutS.right hHeld)) ⟨w6.heap.size, 0, none⟩ 1 1 r rfl hrl (new_cells w6.drew 75 r) hr1.out (by omega) (by unfold maxLen; omega) (by omega) ?_
         intro v' w' hown hgrow
         refine hK.out _ _ (PutS.grown hdbl hHeld hgrow) (fun hHeld => ?_)
         clear hK K
         try simp only [Act.put, sA, s0, s1]
         rw [← hr.out] at hown
         obtain ⟨a2, c2, hv2, hES7⟩ := put_es hRo'.out hok.out (HD'.out.below hb6'.out) (PutS.right hHeld) (by omega) hnl.out hown
         subst hv2
         refine tG 8 rfl (.inl ⟨by rfl, fun w _ => by unfold execOp; rfl⟩) hHeld ?_
         refine wpAnyH_done (by kernel_rfl) ?_ _
         have hbq := PutS.right hHeld
         have hrp := Lib.hid (replace_any bb s f hf a2 (nl + 1) c2 _ _ (hBk6.out.below hbq) hlb'.out hES7)
         have hbw := Lib.hid (hb6'.out.trans (hbq.mono hb6'.out.size))
         have htBw := Lib.hid (htB6.out.below hbq htB6.out.lt)
         clear hES7 hown hgrow hbq hHeld hbs hbd' hS hdr hdi2
         go_wp2_with fail
         refine hrp.out.mono ?_
         rintro e w8 ⟨a8, c8, rfl, hS8, hb8⟩
         have htB8 := htBw.out.below hb8 htBw.out.lt
         have t0 := htB8.at_ (i := 0) rfl
         have t1 := htB8.at_ (i := 1) rfl
         have t2 := htB8.at_ (i := 2) rfl
         have u0 := htB8.frozen 0
         have u1 := htB8.frozen 1
         have u2 := htB8.frozen 2
         have hfin := Lib.hid (put_fin ((nl : Int) + 1) 0 hS8 (hbw.out.trans (hb8.mono hbw.out.size)) hle.out htBw.out.lt)
         have htB8' := Lib.hid htB8
         clear htB8 hS8 hb8 hrp
         go_wp2_with fail
         refine put_ret (copied_set htB8'.out _ _ _) rfl rfl rfl rfl ?_
         rw [hXe.out]
         exact hfin.out
   | false =>
    have hv : Sto.putS s f kind data = (Sto.zeroS, 0, 1) := by simp [Sto.putS, hq, hkd]
    rw [hv]
    rw [hkd] at hik
    clear hv hlb hq hlf
    go_enter Tryz.func35, Tryz.ntmps35
    go_wp2_with fail
    rw [hsb.out, hW1.out]
    refine (hop.out _ hb1.out).mono ?_
    rintro e w2 ⟨hb2, ⟨_, bb, rfl, hBk⟩ | ⟨hne, _⟩⟩
    case inr => exact absurd rfl hne
    have htB2 := htB.out.below hb2 htB.out.lt
    have t0 := htB2.at_ (i := 0) rfl
    have t1 := htB2.at_ (i := 1) rfl
    have t2 := htB2.at_ (i := 2) rfl
    have u0 := htB2.frozen 0
    have u1 := htB2.frozen 1
    have u2 := htB2.frozen 2
    have hb2' := Lib.hid (hb1.out.trans (hb2.mono hb1.out.size))
    have htB2' := Lib.hid htB2
    clear hb2 htB2 hBk hop htB hb1 hsB b0 b1 b2
    go_wp2_with fail
    refine (hik.out _).mono ?_
    rintro e w3 ⟨rfl, rfl⟩
    go_wp2_with fail
    exact put_ret (copied_set htB2'.out _ _ _) rfl rfl rfl rfl (PuttPost.err (((hb2'.out.setCell hle.out _).setCell hle.out _).setCell hle.out _))
 · have hv : Sto.putS s f kind data = (Sto.zeroS, 0, Sto.openE s f) := by simp [Sto.putS, hq]
   rw [hv]
   clear hv
   generalize Sto.openE s f = q at *
   have hqq : (q == 0) = false := by simpa using hq
   go_enter Tryz.func35, Tryz.ntmps35
   go_wp2_with fail
   rw [hsb.out, hW1.out]
   refine (hop.out _ hb1.out).mono ?_
   rintro e w2 ⟨hb2, ⟨h0, _⟩ | ⟨hne, rfl⟩⟩
   case inl => exact absurd h0 hq
   have htB2 := htB.out.below hb2 htB.out.lt
   have t0 := htB2.at_ (i := 0) rfl
   have t1 := htB2.at_ (i := 1) rfl
   have t2 := htB2.at_ (i := 2) rfl
   have u0 := htB2.frozen 0
   have u1 := htB2.frozen 1
   have u2 := htB2.frozen 2
   have hb2' := Lib.hid (hb1.out.trans (hb2.mono hb1.out.size))
   have htB2' := Lib.hid htB2
   clear hb2 htB2 hop htB hb1 hsB b0 b1 b2
   go_wp2_with fail
   exact put_ret (copied_set htB2'.out _ _ _) rfl rfl rfl rfl (PuttPost.err (((hb2'.out.setCell hle.out _).setCell hle.out _).setCell hle.out _))
end Go.Proofs.YtnonfdcbnkdmcaaGreatDoor
namespace Go.Proofs.YtnonfdcbnkdmcaaGreatDoor
open Go.RowKit Go.Mem
open Go.Sto (Ent Lg St)

def DelPost (s : St) (q : Int) (w : World) (e : Ending) (w' : World) : Prop :=
 ∃ a c, e = .returned (.tuple #[.agg #[.int .i64 s.id, .int .i64 s.priv, .slice a s.logs.length c], .int .i64 q]) ∧ SV (fun b => w.heap.size ≤ b) w' a s.logs.length c s ∧ Below w.heap.size w w'
theorem DelPost.err {q : Int} {w w' : World} (hb : Below w.heap.size w w') : DelPost Sto.zeroS q w (.returned (.tuple #[.agg #[.int .i64 0, .int .i64 0, .slice none 0 0], .int .i64 q])) w' := ⟨none, 0, rfl, SV.zero _ _, hb⟩
end Go.Proofs.YtnonfdcbnkdmcaaGreatDoor

