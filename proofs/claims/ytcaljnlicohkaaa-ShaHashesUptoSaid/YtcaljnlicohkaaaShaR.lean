/- SHA-256: the rounds' numbers. -/
import Derived.Test.YtcaljnlicohkaaaShaG
namespace Go.Proofs.Ytcaljnlicohkaaa
open Go.RowKit
set_option maxRecDepth 100000
set_option linter.unusedVariables false
theorem infoKr : (Try.prog.info? 87).map (·.size) = some (wA roundsL).size := by rw [wA_size]; exact infoK
theorem rounds_lit : (#[.int .u32 1116352408, .int .u32 1899447441, .int .u32 3049323471, .int .u32 3921009573, .int .u32 961987163, .int .u32 1508970993, .int .u32 2453635748, .int .u32 2870763221, .int .u32 3624381080, .int .u32 310598401, .int .u32 607225278, .int .u32 1426881987, .int .u32 1925078388, .int .u32 2162078206, .int .u32 2614888103, .int .u32 3248222580, .int .u32 3835390401, .int .u32 4022224774, .int .u32 264347078, .int .u32 604807628, .int .u32 770255983, .int .u32 1249150122, .int .u32 1555081692, .int .u32 1996064986, .int .u32 2554220882, .int .u32 2821834349, .int .u32 2952996808, .int .u32 3210313671, .int .u32 3336571891, .int .u32 3584528711, .int .u32 113926993, .int .u32 338241895, .int .u32 666307205, .int .u32 773529912, .int .u32 1294757372, .int .u32 1396182291, .int .u32 1695183700, .int .u32 1986661051, .int .u32 2177026350, .int .u32 2456956037, .int .u32 2730485921, .int .u32 2820302411, .int .u32 3259730800, .int .u32 3345764771, .int .u32 3516065817, .int .u32 3600352804, .int .u32 4094571909, .int .u32 275423344, .int .u32 430227734, .int .u32 506948616, .int .u32 659060556, .int .u32 883997877, .int .u32 958139571, .int .u32 1322822218, .int .u32 1537002063, .int .u32 1747873779, .int .u32 1955562222, .int .u32 2024104815, .int .u32 2227730452, .int .u32 2361852424, .int .u32 2428436474, .int .u32 2756734187, .int .u32 3204031479, .int .u32 3329325298] : Array Value) = wA roundsL := by kernel_rfl
def zeros64 : List W32 := List.replicate 64 0#32
theorem zeros_lit : (#[.int .u32 0, .int .u32 0, .int .u32 0, .int .u32 0, .int .u32 0, .int .u32 0, .int .u32 0, .int .u32 0, .int .u32 0, .int .u32 0, .int .u32 0, .int .u32 0, .int .u32 0, .int .u32 0, .int .u32 0, .int .u32 0, .int .u32 0, .int .u32 0, .int .u32 0, .int .u32 0, .int .u32 0, .int .u32 0, .int .u32 0, .int .u32 0, .int .u32 0, .int .u32 0, .int .u32 0, .int .u32 0, .int .u32 0, .int .u32 0, .int .u32 0, .int .u32 0, .int .u32 0, .int .u32 0, .int .u32 0, .int .u32 0, .int .u32 0, .int .u32 0, .int .u32 0, .int .u32 0, .int .u32 0, .int .u32 0, .int .u32 0, .int .u32 0, .int .u32 0, .int .u32 0, .int .u32 0, .int .u32 0, .int .u32 0, .int .u32 0, .int .u32 0, .int .u32 0, .int .u32 0, .int .u32 0, .int .u32 0, .int .u32 0, .int .u32 0, .int .u32 0, .int .u32 0, .int .u32 0, .int .u32 0, .int .u32 0, .int .u32 0, .int .u32 0] : Array Value) = wA zeros64 := by kernel_rfl
set_option maxHeartbeats 2000000 in
theorem sha_rounds_any (w : World) :
    Calls Try.prog 47 #[] w fun e w' => e = .returned (.agg (wA roundsL)) ∧ Below w.heap.size w w' := by
  have hb := Box.new w (wA zeros64) 87
  have hB := al1 (Below.refl w.heap.size w) (.cells (wA zeros64) 87)
  have hz := wA_size zeros64
  have hI := infoKr
  have h1 := wA_one roundsL
  have hS : (wA zeros64).size = (wA roundsL).size := by rw [wA_size, wA_size]; rfl
  go_enter Try.func47, Try.ntmps47
  go_upto_region 1 with fail
  simp only [zeros_lit]
  have hE := rounds_lit
  generalize wA zeros64 = zs at *
  generalize hcE : wA roundsL = cs at *
  generalize w.alloc (.cells zs 87) = W0 at *
  go_wp2_with (refine store_box rfl 87 _ _ rfl w.heap.size 87 zs cs rfl (by rw [← hE]; rfl) hb hI hS h1 ?_; intro w9 hb9 hg9)
  exact bodyPost_ret (results_cell1 rfl _ _ _ rfl (run_load_box _ _ _ _ _ hb9 Try.underlying87 rfl hI)) rfl ⟨rfl, below_row hB hg9 (Nat.le_refl _) hB.size⟩
set_option maxHeartbeats 2000000 in
theorem ref_rounds_any (w : World) :
    Calls Try.prog 50 #[] w fun e w' => e = .returned (.agg (wA roundsL)) ∧ Below w.heap.size w w' := by
  have hb := Box.new w (wA zeros64) 87
  have hB := al1 (Below.refl w.heap.size w) (.cells (wA zeros64) 87)
  have hz := wA_size zeros64
  have hI := infoKr
  have h1 := wA_one roundsL
  have hS : (wA zeros64).size = (wA roundsL).size := by rw [wA_size, wA_size]; rfl
  go_enter Try.func50, Try.ntmps50
  go_upto_region 1 with fail
  simp only [zeros_lit]
  have hE := rounds_lit
  generalize wA zeros64 = zs at *
  generalize hcE : wA roundsL = cs at *
  generalize w.alloc (.cells zs 87) = W0 at *
  go_wp2_with (refine store_box rfl 87 _ _ rfl w.heap.size 87 zs cs rfl (by rw [← hE]; rfl) hb hI hS h1 ?_; intro w9 hb9 hg9)
  exact bodyPost_ret (results_cell1 rfl _ _ _ rfl (run_load_box _ _ _ _ _ hb9 Try.underlying87 rfl hI)) rfl ⟨rfl, below_row hB hg9 (Nat.le_refl _) hB.size⟩
end Go.Proofs.Ytcaljnlicohkaaa
