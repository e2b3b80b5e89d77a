/- Several texts in one: PropA. -/
import Derived.Test.YtkmmlcnoeeaekaaGreatDoorBoxesMakeM8
/- Contracts of prop: the tables' rows. -/
namespace Go.Proofs.YtkmmlcnoeeaekaaGreatDoor
open Go.RowKit Go.Great
set_option linter.unusedVariables false
set_option linter.unusedSimpArgs false

set_option maxRecDepth 100000 in
set_option maxHeartbeats 8000000 in
theorem firsts_calls (m : Nat) (hm : m < 20) (w : World) :
    Calls Tryz.prog 150 #[.int .i64 m] w fun e w' => e = .returned (.agg #[.string (propAt m).name, .string (propAt m).kinds, .string (propAt m).keys, .string (propAt m).auto, .bool (propAt m).above]) ∧ Below w.heap.size w w' := by
  have hsz : (w.alloc (.cells #[.string ⟨#[]⟩, .string ⟨#[]⟩, .string ⟨#[]⟩, .string ⟨#[]⟩, .bool false] 156)).heap.size = w.heap.size + 1 := by simp
  have hg0 : ((w.alloc (.cells #[.string ⟨#[]⟩, .string ⟨#[]⟩, .string ⟨#[]⟩, .string ⟨#[]⟩, .bool false] 156)).alloc (.cells Tryz.zeroCells197 197)).heap[w.heap.size + 1]? = some (.cells Tryz.zeroCells197 197 (0, 0)) := by
    have := heap_alloc_new (w.alloc (.cells #[.string ⟨#[]⟩, .string ⟨#[]⟩, .string ⟨#[]⟩, .string ⟨#[]⟩, .bool false] 156)) (.cells Tryz.zeroCells197 197)
    rw [hsz] at this
    exact this
  have HG0 := Lib.hid hg0
  clear hg0 hsz
  go_enter Tryz.func150, Tryz.ntmps150
  go_upto_region 2 with (refine wpList_store_rowTo rfl 197 _ _ rfl rfl (w.heap.size + 1) tbl1 rfl (by kernel_rfl) _ _ HG0.out (by kernel_rfl) (by kernel_rfl) (by kernel_rfl) ?_)
  clear HG0
  obtain ⟨ht, hc, hw⟩ := tbl_facts w 156 197 #[.string ⟨#[]⟩, .string ⟨#[]⟩, .string ⟨#[]⟩, .string ⟨#[]⟩, .bool false] Tryz.zeroCells197 tbl1
  have HT := Lib.hid ht
  have HC := Lib.hid hc
  have HW := Lib.hid hw
  clear ht hc hw
  generalize World.setRow _ _ _ = wt at HT HC HW ⊢
  have HR : Hid (wt.rangeAt (w.heap.size + 1) (m * 5) (propF (propAt m))) := by
    show World.rangeAt _ _ _ _
    rw [propAt1 hm]
    exact tbl_range HT.out hm
  obtain ⟨x, hx⟩ : ∃ x, x = propAt m := ⟨_, rfl⟩
  rw [← hx] at HR
  have HX := Lib.hid hx
  clear hx
  unfold propF at HR
  clear HT
  go_wp2_with (first | (refine wpList_load_mid rfl 156 _ rfl (w.heap.size + 1) (m * 5) rfl [.string x.name, .string x.kinds, .string x.keys, .string x.auto, .bool x.above] _ HR.out Tryz.underlying156 rfl (by kernel_rfl) ?_) | (refine wpList_store_rowTo rfl 156 _ _ rfl rfl w.heap.size #[.string x.name, .string x.kinds, .string x.keys, .string x.auto, .bool x.above] rfl rfl _ _ HC.out (by kernel_rfl) (by kernel_rfl) (by kernel_rfl) ?_))
  have hR := setRow_heap wt w.heap.size _ #[.string x.name, .string x.kinds, .string x.keys, .string x.auto, .bool x.above] _ _ HC.out
  exact bodyPost_ret (v := .agg #[.string x.name, .string x.kinds, .string x.keys, .string x.auto, .bool x.above]) (results_cell_row Tryz.results150 _ _ w.heap.size 156 _ (0, 0) _ rfl hR Tryz.underlying156 rfl (by kernel_rfl)) rfl ⟨by rw [HX.out], below_setRow HW.out (Nat.le_refl _) _⟩
end Go.Proofs.YtkmmlcnoeeaekaaGreatDoor
