/- Tags in plain words. -/
import Derived.Test.YtljjmcnblcklhaaPlainRun
import Derived.Test.YtljjmcnblcklhaaShaN
set_option linter.unusedVariables false
set_option linter.unusedSimpArgs false
namespace Go.Proofs.Ytljjmcnblcklhaa
open Go.Abs Go.RowKit Go.Ours

/-- A key's block. -/
def kcut (key : List Nat) : List Nat := if 64 < key.length then shaF key else key
def kblk (key : List Nat) : List Nat := kcut key ++ List.replicate (64 - (kcut key).length) 0
def xr (c : Nat) (l : List Nat) : List Nat := l.map fun x => x ^^^ c
/-- A text's tag. -/
def tagF (key t : List Nat) : List Nat := shaF (xr 92 (kblk key) ++ shaF (xr 54 (kblk key) ++ t))
theorem kcut_len (key : List Nat) : (kcut key).length ≤ 64 := by
  unfold kcut
  split
  · rw [shaF_len]; omega
  · omega
theorem kblk_len (key : List Nat) : (kblk key).length = 64 := by
  have := kcut_len key
  simp [kblk]; omega
theorem kcut_lt (key : List Nat) (h : ∀ x ∈ key, x < 256) : ∀ x ∈ kcut key, x < 256 := by
  unfold kcut
  split
  · exact shaF_lt key
  · exact h
theorem kblk_lt (key : List Nat) (h : ∀ x ∈ key, x < 256) : ∀ x ∈ kblk key, x < 256 := by
  intro x hx
  rcases List.mem_append.1 hx with hx | hx
  · exact kcut_lt key h x hx
  · rw [(List.mem_replicate.1 hx).2]; decide
theorem xr_len (c : Nat) (l : List Nat) : (xr c l).length = l.length := by simp [xr]
theorem xor_lt {x c : Nat} (hx : x < 256) (hc : c < 256) : x ^^^ c < 256 := Nat.xor_lt_two_pow (n := 8) hx hc
theorem xr_lt (c : Nat) (hc : c < 256) (l : List Nat) (h : ∀ x ∈ l, x < 256) : ∀ x ∈ xr c l, x < 256 := by
  intro x hx
  obtain ⟨y, hy, rfl⟩ := List.mem_map.1 hx
  exact xor_lt (h y hy) hc
theorem tagF_len (key t : List Nat) : (tagF key t).length = 32 := shaF_len _
theorem tagF_lt (key t : List Nat) : ∀ x ∈ tagF key t, x < 256 := shaF_lt _
theorem xor8 (x c : Nat) (hx : x < 256) (hc : c < 256) : bits BinOp.xor IntKind.u8 (x : Int) (c : Int) = ((x ^^^ c : Nat) : Int) := by
  have h := (bits_op .u8 x c hx hc).2.2
  have := xor_lt hx hc
  rw [h, wrap_u8 _ (by omega) (by omega)]
theorem or8 (x c : Nat) (hx : x < 256) (hc : c < 256) : bits BinOp.or IntKind.u8 (x : Int) (c : Int) = ((x ||| c : Nat) : Int) := by
  have h := (bits_op .u8 x c hx hc).2.1
  have : x ||| c < 256 := Nat.or_lt_two_pow (n := 8) hx hc
  rw [h, wrap_u8 _ (by omega) (by omega)]
def tagG (key t : List Nat) : List Nat := fM (xr 54 key ++ t) fun a => fM (shaG a) fun b => fM (xr 92 key ++ b) fun c => shaG c
theorem tagG_eq (key t : List Nat) : tagG (kblk key) t = tagF key t := by
  unfold tagG tagF
  rw [fM_eq, fM_eq, fM_eq, shaG_eq, shaG_eq]
theorem wake_tag : (tagF [74, 101, 102, 101] [119, 104, 97, 116, 32, 100, 111, 32, 121, 97, 32, 119, 97, 110, 116, 32, 102, 111, 114, 32, 110, 111, 116, 104, 105, 110, 103, 63]).take 4 = [91, 220, 193, 70] := by
  rw [← tagG_eq]
  have : kblk [74, 101, 102, 101] = [74, 101, 102, 101] ++ List.replicate 60 0 := rfl
  rw [this]
  decide +kernel
end Go.Proofs.Ytljjmcnblcklhaa
