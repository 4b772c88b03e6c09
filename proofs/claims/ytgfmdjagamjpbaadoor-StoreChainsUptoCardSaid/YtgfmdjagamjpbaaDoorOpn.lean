/- store.open, Fetch -/
import Derived.Test.YtgfmdjagamjpbaaDoorChk
namespace Go.Proofs.YtgfmdjagamjpbaaDoor
open Go.RowKit Go.Mem
open Go.Sto (Ent Lg St)

def OpenPost (K : Nat → Prop) (s : St) (q : Int) (w : World) (e : Ending) (w' : World) : Prop :=
  Below w.heap.size w w' ∧ ((q = 0 ∧ ∃ bb, e = .returned (.tuple #[.pointer (some ⟨bb, 0, none⟩), .int .i64 0]) ∧ Book K w' bb s) ∨ (q ≠ 0 ∧ e = .returned (.tuple #[.pointer none, .int .i64 q])))

set_option maxRecDepth 20000 in
set_option maxHeartbeats 1000000 in
theorem open_any (K : Nat → Prop) (a : Option Addr) (n c : Nat) (s : St) (f : Int) (w : World) (HT : Tabs w) (H : SV K w a n c s) :
    Calls Tryd.prog 27 #[.agg #[.int .i64 s.id, .int .i64 s.priv, .slice a n c], .int .i64 f] w (OpenPost K s (Sto.openE s f) w) := by
  have HT' := Lib.hid HT; have H' := Lib.hid H
  clear HT H
  obtain ⟨sb, hsb⟩ : ∃ sb, Hid (w.heap.size = sb) := ⟨_, rfl⟩
  have hB1 : Hid (Blk (w.alloc (.cells #[.int .i64 s.id, .int .i64 s.priv, .slice a n c] 26)) sb 26 (stC s a n c)) := by rw [← hsb.out]; exact Blk.new w _ (stC s a n c)
  have hb1 : Hid (Below w.heap.size w (w.alloc (.cells #[.int .i64 s.id, .int .i64 s.priv, .slice a n c] 26))) := (Below.refl _ w).alloc (Nat.le_refl _) _
  have hck := Lib.hid (fun W (hW : Below w.heap.size w W) => Check_any K a n c s W (HT'.out.below hW) (H'.out.below hW))
  have b0 := hB1.out.at_ (i := 0) rfl
  have b1 := hB1.out.at_ (i := 1) rfl
  have b2 := hB1.out.at_ (i := 2) rfl
  have hfo := Lib.hid (fun W => isFolder_any f W)
  by_cases hc : Sto.chkS s = 0
  · rw [hc] at hck
    cases hf : Sto.folderB f with
    | true =>
      have hq : Sto.openE s f = 0 := by simp [Sto.openE, hc, hf]
      rw [hq]
      rw [hf] at hfo
      clear hq hf hc
      go_enter Tryd.func27, Tryd.ntmps27
      go_wp2_with fail
      rw [hsb.out]
      generalize World.alloc w _ = W1 at *
      refine (hck.out _ hb1.out).mono ?_
      rintro e w2 ⟨rfl, hb2⟩
      go_wp2_with fail
      refine (hfo.out _).mono ?_
      rintro e w3 ⟨rfl, rfl⟩
      have hB2 := hB1.out.below hb2 hB1.out.lt
      have c0 := hB2.at_ (i := 0) rfl
      have c1 := hB2.at_ (i := 1) rfl
      have c2 := hB2.at_ (i := 2) rfl
      have hb2' := Lib.hid (hb1.out.trans (hb2.mono hb1.out.size))
      clear hB2 hb2 hB1 hb1 hck b0 b1 b2
      go_wp2_with fail
      go_ret2
      have hb4 := hb2'.out.alloc hb2'.out.size (.cells #[.int .i64 s.id, .int .i64 s.priv, .slice a n c] 107)
      exact ⟨hb4, .inl ⟨rfl, _, rfl, ⟨_, a, n, c, Blk.new _ 107 (stC s a n c), H'.out.below hb4⟩⟩⟩
    | false =>
      have hq : Sto.openE s f = 1 := by simp [Sto.openE, hc, hf]
      rw [hq]
      rw [hf] at hfo
      clear hq hf hc
      go_enter Tryd.func27, Tryd.ntmps27
      go_wp2_with fail
      rw [hsb.out]
      generalize World.alloc w _ = W1 at *
      refine (hck.out _ hb1.out).mono ?_
      rintro e w2 ⟨rfl, hb2⟩
      go_wp2_with fail
      refine (hfo.out _).mono ?_
      rintro e w3 ⟨rfl, rfl⟩
      go_wp2_with fail
      go_ret2
      exact ⟨hb1.out.trans (hb2.mono hb1.out.size), .inr ⟨by decide, rfl⟩⟩
  · have h300 : Sto.chkS s = 300 := by unfold Sto.chkS at hc ⊢; split at hc <;> simp_all
    have hq : Sto.openE s f = 300 := by simp [Sto.openE, hc]
    rw [hq]
    rw [h300] at hck
    clear hq hc h300
    go_enter Tryd.func27, Tryd.ntmps27
    go_wp2_with fail
    rw [hsb.out]
    generalize World.alloc w _ = W1 at *
    refine (hck.out _ hb1.out).mono ?_
    rintro e w2 ⟨rfl, hb2⟩
    go_wp2_with fail
    go_ret2
    exact ⟨hb1.out.trans (hb2.mono hb1.out.size), .inr ⟨by decide, rfl⟩⟩
end Go.Proofs.YtgfmdjagamjpbaaDoor
