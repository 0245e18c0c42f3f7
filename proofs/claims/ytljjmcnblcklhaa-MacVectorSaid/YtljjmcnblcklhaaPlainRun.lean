/- A digest worked out: each word before it is used. -/
import Derived.Test.YtljjmcnblcklhaaPlainSum
set_option linter.unusedVariables false
set_option linter.unusedSimpArgs false
namespace Go.Proofs.Ytljjmcnblcklhaa
open Go.Abs Go.RowKit Go.Ours

def fN {α : Type} : Nat → (Nat → α) → α
  | 0, f => f 0
  | n + 1, f => f (n + 1)
theorem fN_eq {α : Type} (n : Nat) (f : Nat → α) : fN n f = f n := by cases n <;> rfl
def fI {α : Type} : Int → (Int → α) → α
  | .ofNat n, f => fN n fun n => f (.ofNat n)
  | .negSucc n, f => fN n fun n => f (.negSucc n)
theorem fI_eq {α : Type} (n : Int) (f : Int → α) : fI n f = f n := by cases n <;> simp [fI, fN_eq]
def fL {α : Type} : List Int → (List Int → α) → α
  | [], f => f []
  | a :: l, f => fI a fun a => fL l fun l => f (a :: l)
theorem fL_eq {α : Type} : ∀ (l : List Int) (f : List Int → α), fL l f = f l
  | [], f => rfl
  | a :: l, f => by simp [fL, fI_eq, fL_eq l]
def fM {α : Type} : List Nat → (List Nat → α) → α
  | [], f => f []
  | a :: l, f => fN a fun a => fM l fun l => f (a :: l)
theorem fM_eq {α : Type} : ∀ (l : List Nat) (f : List Nat → α), fM l f = f l
  | [], f => rfl
  | a :: l, f => by simp [fM, fN_eq, fM_eq l]
def WT (b : List Nat) : Nat → Nat → List Int → List Int
  | 0, _, L => L
  | r + 1, n, L => fI (if n < 16 then (be (b.getD (4 * n) 0) (b.getD (4 * n + 1) 0) (b.getD (4 * n + 2) 0) (b.getD (4 * n + 3) 0) : Nat) else nxt L n) fun x => fL (L.set n x) fun L => WT b r (n + 1) L
theorem WT_eq (b : List Nat) : ∀ (r n : Nat), WT b r n (W b n) = W b (n + r)
  | 0, n => rfl
  | r + 1, n => by
    rw [WT, fI_eq, fL_eq, show n + (r + 1) = (n + 1) + r by omega, ← WT_eq b r (n + 1)]
    rfl
def RF (K Wd : List Int) : Nat → Nat → List Int → List Int
  | 0, _, v => v
  | n + 1, k, v => fL (rnd (K.getD k 0) (Wd.getD k 0) v) fun v => RF K Wd n (k + 1) v
theorem RF_eq (K Wd : List Int) : ∀ (n k : Nat) (v : List Int), RF K Wd n k v = Rn K Wd n k v
  | 0, _, _ => rfl
  | n + 1, k, v => by rw [RF, fL_eq, RF_eq K Wd n]; rfl
def bF (s : List Int) (b : List Nat) : List Int := fM b fun b => fL (WT b 64 0 (List.replicate 64 0)) fun Wd => fL (RF KW Wd 64 0 s) fun v => fL (List.zipWith (fun x y => IntKind.u32.wrap (x + y)) s v) id
theorem bF_eq (s : List Int) (b : List Nat) : bF s b = blk KW s b := by
  unfold bF blk
  rw [fM_eq, fL_eq, fL_eq, fL_eq, RF_eq]
  have := WT_eq b 64 0
  rw [show W b 0 = List.replicate 64 0 from rfl] at this
  rw [this]
  rfl
def runF : Nat → List Int → List Nat → List Int
  | 0, s, _ => s
  | n + 1, s, t => fL (bF s (t.take 64)) fun s => runF n s (t.drop 64)
theorem runF_eq : ∀ (n : Nat) (s : List Int) (t : List Nat), runF n s t = run n s t
  | 0, _, _ => rfl
  | n + 1, s, t => by rw [runF, fL_eq, bF_eq, runF_eq n]; rfl
def shaG (t : List Nat) : List Nat := fM (pad t t.length) fun p => fM (told (runF (p.length / 64) s0W p)) id
theorem shaG_eq (t : List Nat) : shaG t = shaF t := by
  unfold shaG shaF
  rw [fM_eq, fM_eq, runF_eq]
  rfl
theorem wake_e : (shaF []).take 4 = [227, 176, 196, 66] := by
  rw [← shaG_eq]
  decide +kernel
theorem wake_abc : (shaF [97, 98, 99]).take 4 = [186, 120, 22, 191] := by
  rw [← shaG_eq]
  decide +kernel
end Go.Proofs.Ytljjmcnblcklhaa
