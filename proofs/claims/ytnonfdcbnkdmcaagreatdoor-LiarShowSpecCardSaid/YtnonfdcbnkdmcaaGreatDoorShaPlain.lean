/- Plain: SHA-256 on natural numbers; no program. -/

namespace Sha

abbrev M : Nat := 4294967296

def ror (x r : Nat) : Nat := (x <<< (32 - r)) % 4294967296 ||| x >>> r
def rot3 (x a b c : Nat) : Nat := (ror x a ^^^ ror x b) ^^^ ror x c
def ss0 (x : Nat) : Nat := (ror x 7 ^^^ ror x 18) ^^^ x / 8
def ss1 (x : Nat) : Nat := (ror x 17 ^^^ ror x 19) ^^^ x / 1024
def ch (e f g : Nat) : Nat := g ^^^ (e &&& (f ^^^ g))
def maj (a b c : Nat) : Nat := (a &&& b) ||| (c &&& (a ||| b))

theorem ror_lt (x r : Nat) (hx : x < 4294967296) : ror x r < 4294967296 := by
 unfold ror
 have h1 : (x <<< (32 - r)) % 4294967296 < 2 ^ 32 := Nat.mod_lt _ (by decide)
 have h2 : x >>> r < 2 ^ 32 := by rw [Nat.shiftRight_eq_div_pow]; exact Nat.lt_of_le_of_lt (Nat.div_le_self _ _) hx
 exact Nat.or_lt_two_pow h1 h2
theorem xor_lt {a b : Nat} (ha : a < 4294967296) (hb : b < 4294967296) : a ^^^ b < 4294967296 := Nat.xor_lt_two_pow (n := 32) ha hb
theorem or_lt {a b : Nat} (ha : a < 4294967296) (hb : b < 4294967296) : a ||| b < 4294967296 := Nat.or_lt_two_pow (n := 32) ha hb
theorem and_lt {a b : Nat} (hb : b < 4294967296) : a &&& b < 4294967296 := Nat.and_lt_two_pow (n := 32) a hb
theorem ss0_lt (x : Nat) (hx : x < 4294967296) : ss0 x < 4294967296 := xor_lt (xor_lt (ror_lt _ _ hx) (ror_lt _ _ hx)) (by omega)
theorem ss1_lt (x : Nat) (hx : x < 4294967296) : ss1 x < 4294967296 := xor_lt (xor_lt (ror_lt _ _ hx) (ror_lt _ _ hx)) (by omega)
structure St where
 a : Nat
 b : Nat
 c : Nat
 d : Nat
 e : Nat
 f : Nat
 g : Nat
 h : Nat

structure St.Ok (s : St) : Prop where
 a : s.a < 4294967296
 b : s.b < 4294967296
 c : s.c < 4294967296
 d : s.d < 4294967296
 e : s.e < 4294967296
 f : s.f < 4294967296
 g : s.g < 4294967296
 h : s.h < 4294967296

def pp (s : St) (k w : Nat) : Nat := (s.h + rot3 s.e 6 11 25 + ch s.e s.f s.g + k + w) % 4294967296
def qq (s : St) : Nat := (rot3 s.a 2 13 22 + maj s.a s.b s.c) % 4294967296
def rnd (s : St) (k w : Nat) : St := ⟨(pp s k w + qq s) % 4294967296, s.a, s.b, s.c, (s.d + pp s k w) % 4294967296, s.e, s.f, s.g⟩
def rnds (s : St) : List Nat → List Nat → St
 | k :: ks, w :: ws => rnds (rnd s k w) ks ws
 | _, _ => s
theorem rnds_cons (s : St) (k w : Nat) (ks ws : List Nat) : rnds s (k :: ks) (w :: ws) = rnds (rnd s k w) ks ws := rfl
theorem rnd_ok {s : St} (h : s.Ok) (k w : Nat) : (rnd s k w).Ok := ⟨Nat.mod_lt _ (by decide), h.a, h.b, h.c, Nat.mod_lt _ (by decide), h.e, h.f, h.g⟩

def get (l : List Nat) (i : Nat) : Nat := l.getD i 0
def next (l : List Nat) : Nat := (get l (l.length - 16) + ss0 (get l (l.length - 15)) + get l (l.length - 7) + ss1 (get l (l.length - 2))) % 4294967296
def ext : Nat → List Nat → List Nat
 | 0, l => l
 | n + 1, l => ext n (l ++ [next l])
def word (l : List Nat) (i : Nat) : Nat := ((get l i * 256 + get l (i + 1)) * 256 + get l (i + 2)) * 256 + get l (i + 3)
def words (l : List Nat) : List Nat := (List.range 16).map fun t => word l (4 * t)
def K : List Nat := [
 0x428a2f98, 0x71374491, 0xb5c0fbcf, 0xe9b5dba5, 0x3956c25b, 0x59f111f1, 0x923f82a4, 0xab1c5ed5,
 0xd807aa98, 0x12835b01, 0x243185be, 0x550c7dc3, 0x72be5d74, 0x80deb1fe, 0x9bdc06a7, 0xc19bf174,
 0xe49b69c1, 0xefbe4786, 0x0fc19dc6, 0x240ca1cc, 0x2de92c6f, 0x4a7484aa, 0x5cb0a9dc, 0x76f988da,
 0x983e5152, 0xa831c66d, 0xb00327c8, 0xbf597fc7, 0xc6e00bf3, 0xd5a79147, 0x06ca6351, 0x14292967,
 0x27b70a85, 0x2e1b2138, 0x4d2c6dfc, 0x53380d13, 0x650a7354, 0x766a0abb, 0x81c2c92e, 0x92722c85,
 0xa2bfe8a1, 0xa81a664b, 0xc24b8b70, 0xc76c51a3, 0xd192e819, 0xd6990624, 0xf40e3585, 0x106aa070,
 0x19a4c116, 0x1e376c08, 0x2748774c, 0x34b0bcb5, 0x391c0cb3, 0x4ed8aa4a, 0x5b9cca4f, 0x682e6ff3,
 0x748f82ee, 0x78a5636f, 0x84c87814, 0x8cc70208, 0x90befffa, 0xa4506ceb, 0xbef9a3f7, 0xc67178f2]
theorem K_length : K.length = 64 := by decide
def plus (s v : St) : St := ⟨(s.a + v.a) % 4294967296, (s.b + v.b) % 4294967296, (s.c + v.c) % 4294967296, (s.d + v.d) % 4294967296, (s.e + v.e) % 4294967296, (s.f + v.f) % 4294967296, (s.g + v.g) % 4294967296, (s.h + v.h) % 4294967296⟩
theorem plus_ok (s v : St) : (plus s v).Ok := ⟨Nat.mod_lt _ (by decide), Nat.mod_lt _ (by decide), Nat.mod_lt _ (by decide), Nat.mod_lt _ (by decide), Nat.mod_lt _ (by decide), Nat.mod_lt _ (by decide), Nat.mod_lt _ (by decide), Nat.mod_lt _ (by decide)⟩

def comp (s : St) (blk : List Nat) : St := plus s (rnds s K (ext 48 (words blk)))
theorem comp_ok (s : St) (blk : List Nat) : (comp s blk).Ok := plus_ok _ _

def blocks : Nat → St → List Nat → St
 | 0, s, _ => s
 | n + 1, s, l => blocks n (comp s (l.take 64)) (l.drop 64)
theorem blocks_ok {s : St} (h : s.Ok) : ∀ (n : Nat) (l : List Nat), (blocks n s l).Ok := by
 intro n
 induction n generalizing s with
 | zero => intro l; exact h
 | succ n ih => intro l; exact ih (comp_ok _ _) _

def start : St := ⟨0x6a09e667, 0xbb67ae85, 0x3c6ef372, 0xa54ff53a, 0x510e527f, 0x9b05688c, 0x1f83d9ab, 0x5be0cd19⟩
theorem start_ok : start.Ok := by constructor <;> decide

def be (k n : Nat) : List Nat := (List.range k).map fun i => n / 256 ^ (k - 1 - i) % 256
theorem be_length (k n : Nat) : (be k n).length = k := by simp [be]
theorem be_lt (k n : Nat) : ∀ x ∈ be k n, x < 256 := by
 intro x hx
 simp only [be, List.mem_map, List.mem_range] at hx
 obtain ⟨i, _, rfl⟩ := hx
 exact Nat.mod_lt _ (by decide)

def tail (r : List Nat) (n : Nat) : List Nat :=
 r ++ [0x80] ++ List.replicate ((if r.length > 55 then 128 else 64) - 9 - r.length) 0 ++ be 8 (8 * n)
def out (s : St) : List Nat := be 4 s.a ++ be 4 s.b ++ be 4 s.c ++ be 4 s.d ++ be 4 s.e ++ be 4 s.f ++ be 4 s.g ++ be 4 s.h
theorem out_length (s : St) : (out s).length = 32 := by simp [out, be_length]
theorem out_lt (s : St) : ∀ x ∈ out s, x < 256 := by
 intro x hx
 simp only [out, List.mem_append] at hx
 rcases hx with ((((((h | h) | h) | h) | h) | h) | h) | h <;> exact be_lt _ _ x h

def sum (l : List Nat) : List Nat :=
 let r := l.drop (l.length / 64 * 64)
 out (blocks ((tail r l.length).length / 64) (blocks (l.length / 64) start l) (tail r l.length))
theorem sum_length (l : List Nat) : (sum l).length = 32 := out_length _
theorem sum_lt (l : List Nat) : ∀ x ∈ sum l, x < 256 := out_lt _

def tagged (tag l : List Nat) : List Nat := sum (sum tag ++ l)
theorem tagged_length (tag l : List Nat) : (tagged tag l).length = 32 := out_length _
theorem tagged_lt (tag l : List Nat) : ∀ x ∈ tagged tag l, x < 256 := out_lt _
def chain (e d : List Nat) : List Nat := tagged [99, 104, 97, 105, 110] (e ++ d)

end Sha

