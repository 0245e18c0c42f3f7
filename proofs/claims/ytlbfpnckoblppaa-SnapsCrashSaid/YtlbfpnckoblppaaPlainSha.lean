/- Digests in plain words: the words as whole numbers, the operations the language's own. -/
import Derived.Test.YtlbfpnckoblppaaAbs2
set_option linter.unusedVariables false
set_option linter.unusedSimpArgs false
namespace Go.Abs
open Go.RowKit Go.Ours

/-- A row of whole numbers with signs. -/
def kis (k : IntKind) (l : List Int) : List PV := l.map fun n => PV.int k n
theorem kis_get (k : IntKind) (l : List Int) (i : Nat) : (kis k l)[i]? = l[i]?.map fun n => PV.int k n := by simp [kis]
theorem kis_length (k : IntKind) (l : List Int) : (kis k l).length = l.length := by simp [kis]
theorem kis_set (k : IntKind) (l : List Int) (i : Nat) (n : Int) : (kis k l).set i (.int k n) = kis k (l.set i n) := by simp [kis, List.map_set]
theorem kis_rep (k : IntKind) (n : Nat) : List.replicate n (PV.int k 0) = kis k (List.replicate n 0) := by simp [kis]
def kirows (k : IntKind) (l : List Int) : List (List PV) := l.map fun n => [PV.int k n]
theorem kirows_get (k : IntKind) (l : List Int) (i : Nat) : (kirows k l)[i]? = l[i]?.map fun n => [PV.int k n] := by simp [kirows]
theorem kirows_length (k : IntKind) (l : List Int) : (kirows k l).length = l.length := by simp [kirows]
theorem kirows_flat (k : IntKind) (l : List Int) : (kirows k l).flatten = kis k l := by
  induction l with
  | nil => rfl
  | cons a r ih => simp [kirows, kis] at *; exact ih

def w32 (x : Int) : Int := IntKind.u32.wrap x
def bx (a b : Int) : Int := bits .xor .u32 a b
def ba (a b : Int) : Int := bits .and .u32 a b
def bo (a b : Int) : Int := bits .or .u32 a b
def rot (x : Int) (n : Nat) : Int := bo (x.fdiv (2 ^ n)) (w32 (x * 2 ^ (32 - n)))
theorem bo_comm (a b : Int) : bo a b = bo b a := by simp [bo, bits, BitVec.or_comm]

/-- A word's bytes, the greatest first. -/
def be (x0 x1 x2 x3 : Nat) : Nat := ((x0 * 256 + x1) * 256 + x2) * 256 + x3
theorem or_nat (a b : Nat) (ha : a < 2 ^ 32) (hb : b < 2 ^ 32) : bits .or .u32 (a : Int) (b : Int) = ((a ||| b : Nat) : Int) := by
  have h := (bits_op .u32 a b ha hb).2.1
  have : a ||| b < 2 ^ 32 := Nat.or_lt_two_pow ha hb
  rw [wrap_u32 _ (by omega) (by omega)] at h
  exact h
theorem or_hi (a b n : Nat) (hb : b < 2 ^ n) : a * 2 ^ n ||| b = a * 2 ^ n + b := by
  rw [← Nat.shiftLeft_eq, Nat.shiftLeft_add_eq_or_of_lt hb]
theorem or_be (x0 x1 x2 x3 : Nat) (h0 : x0 < 256) (h1 : x1 < 256) (h2 : x2 < 256) (h3 : x3 < 256) :
    bits .or .u32 (bits .or .u32 (bits .or .u32 (IntKind.u32.wrap ((x0 : Int) * 2 ^ min 24 IntKind.u32.bits)) (IntKind.u32.wrap ((x1 : Int) * 2 ^ min 16 IntKind.u32.bits))) (IntKind.u32.wrap ((x2 : Int) * 2 ^ min 8 IntKind.u32.bits))) (x3 : Int) = (be x0 x1 x2 x3 : Nat) := by
  have e0 : (x0 : Int) * 2 ^ min 24 IntKind.u32.bits = ((x0 * 2 ^ 24 : Nat) : Int) := rfl
  have e1 : (x1 : Int) * 2 ^ min 16 IntKind.u32.bits = ((x1 * 2 ^ 16 : Nat) : Int) := rfl
  have e2 : (x2 : Int) * 2 ^ min 8 IntKind.u32.bits = ((x2 * 2 ^ 8 : Nat) : Int) := rfl
  rw [e0, e1, e2, wrap_u32 _ (by omega) (by omega), wrap_u32 _ (by omega) (by omega), wrap_u32 _ (by omega) (by omega)]
  rw [or_nat _ _ (by omega) (by omega), or_hi _ _ _ (by omega), or_nat _ _ (by omega) (by omega)]
  rw [show x0 * 2 ^ 24 + x1 * 2 ^ 16 = (x0 * 256 + x1) * 2 ^ 16 by omega, or_hi _ _ _ (by omega), or_nat _ _ (by omega) (by omega)]
  rw [show (x0 * 256 + x1) * 2 ^ 16 + x2 * 2 ^ 8 = ((x0 * 256 + x1) * 256 + x2) * 2 ^ 8 by omega, or_hi _ _ _ (by omega)]
  rfl
def sg0 (x : Int) : Int := bits .xor .u32 (bits .xor .u32 (rot x 7) (rot x 18)) (x.fdiv (2 ^ min 3 IntKind.u32.bits))
def sg1 (x : Int) : Int := bits .xor .u32 (bits .xor .u32 (rot x 17) (rot x 19)) (x.fdiv (2 ^ min 10 IntKind.u32.bits))
def nxt (L : List Int) (i : Nat) : Int := IntKind.u32.wrap (IntKind.u32.wrap (IntKind.u32.wrap (L.getD (i - 16) 0 + L.getD (i - 7) 0) + sg0 (L.getD (i - 15) 0)) + sg1 (L.getD (i - 2) 0))
/-- A block's words, as they come. -/
def W (b : List Nat) : Nat → List Int
  | 0 => List.replicate 64 0
  | n + 1 => (W b n).set n (if n < 16 then (be (b.getD (4 * n) 0) (b.getD (4 * n + 1) 0) (b.getD (4 * n + 2) 0) (b.getD (4 * n + 3) 0) : Nat) else nxt (W b n) n)
theorem W_len (b : List Nat) : ∀ n, (W b n).length = 64
  | 0 => by simp [W]
  | n + 1 => by simp [W, W_len b n]
def S1 (e : Int) : Int := bits .xor .u32 (bits .xor .u32 (rot e 6) (rot e 11)) (rot e 25)
def S0 (a : Int) : Int := bits .xor .u32 (bits .xor .u32 (rot a 2) (rot a 13)) (rot a 22)
def cho (e f g : Int) : Int := bits .xor .u32 (bits .and .u32 e f) (bits .and .u32 (bits .xor .u32 4294967295 e) g)
def maj (a b c : Int) : Int := bits .xor .u32 (bits .xor .u32 (bits .and .u32 a b) (bits .and .u32 a c)) (bits .and .u32 b c)
def tee (k w e f g h : Int) : Int := IntKind.u32.wrap (IntKind.u32.wrap (IntKind.u32.wrap (IntKind.u32.wrap (h + S1 e) + cho e f g) + k) + w)
def you (a b c : Int) : Int := IntKind.u32.wrap (S0 a + maj a b c)
/-- A round. -/
def rnd (k w : Int) : List Int → List Int
  | [a, b, c, d, e, f, g, h] => [IntKind.u32.wrap (tee k w e f g h + you a b c), a, b, c, IntKind.u32.wrap (d + tee k w e f g h), e, f, g]
  | l => l
/-- The rounds from the k-th on. -/
def Rn (K Wd : List Int) : Nat → Nat → List Int → List Int
  | 0, _, v => v
  | n + 1, k, v => Rn K Wd n (k + 1) (rnd (K.getD k 0) (Wd.getD k 0) v)
theorem len8 : ∀ {l : List Int}, l.length = 8 → ∃ a b c d e f g h, l = [a, b, c, d, e, f, g, h]
  | [a, b, c, d, e, f, g, h], _ => ⟨a, b, c, d, e, f, g, h, rfl⟩
theorem Rn_len (K Wd : List Int) : ∀ (n k : Nat) (v : List Int), v.length = 8 → (Rn K Wd n k v).length = 8
  | 0, _, v, h => h
  | n + 1, k, v, hv => by
    obtain ⟨a, b, c, d, e, f, g, h, rfl⟩ := len8 hv
    exact Rn_len K Wd n (k + 1) _ rfl
/-- The state behind a block. -/
def blk (K : List Int) (s : List Int) (b : List Nat) : List Int := List.zipWith (fun x y => IntKind.u32.wrap (x + y)) s (Rn K (W b 64) 64 0 s)
/-- The rounds' words. -/
def KW : List Int := [1116352408, 1899447441, 3049323471, 3921009573, 961987163, 1508970993, 2453635748, 2870763221, 3624381080, 310598401, 607225278, 1426881987, 1925078388, 2162078206, 2614888103, 3248222580, 3835390401, 4022224774, 264347078, 604807628, 770255983, 1249150122, 1555081692, 1996064986, 2554220882, 2821834349, 2952996808, 3210313671, 3336571891, 3584528711, 113926993, 338241895, 666307205, 773529912, 1294757372, 1396182291, 1695183700, 1986661051, 2177026350, 2456956037, 2730485921, 2820302411, 3259730800, 3345764771, 3516065817, 3600352804, 4094571909, 275423344, 430227734, 506948616, 659060556, 883997877, 958139571, 1322822218, 1537002063, 1747873779, 1955562222, 2024104815, 2227730452, 2361852424, 2428436474, 2756734187, 3204031479, 3329325298]
/-- How a digest begins. -/
def s0W : List Int := [1779033703, 3144134277, 1013904242, 2773480762, 1359893119, 2600822924, 528734635, 1541459225]
/-- A byte of a word. -/
def byt (m : Nat) (x : Int) : Nat := (IntKind.u8.wrap (x.fdiv (2 ^ m))).toNat
/-- A state's bytes. -/
def told (s : List Int) : List Nat := s.flatMap fun x => [byt 24 x, byt 16 x, byt 8 x, byt 0 x]
theorem KW_len : KW.length = 64 := rfl
end Go.Abs
