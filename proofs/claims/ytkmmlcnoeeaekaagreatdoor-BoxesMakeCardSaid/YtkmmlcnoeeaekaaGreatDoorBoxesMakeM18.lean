/- Several texts in one: BxC, BxN, Collapse, Turn. -/
import Derived.Test.YtkmmlcnoeeaekaaGreatDoorBoxesMakeM17
import Derived.Test.YtkmmlcnoeeaekaaGreatDoorBoxesMakeM5
import Derived.Test.YtkmmlcnoeeaekaaGreatDoorBoxesMakeM1
import Derived.Test.YtkmmlcnoeeaekaaGreatDoorRows
import Derived.WalkKit
import Derived.WalkSpells
import Derived.WalkLawsBesides
import Derived.Lib.Hide
import Derived.Outline
import Derived.Deep.QuietTactic
import Derived.BigQuiet
import Derived.Lib.ConvBytes
import Derived.Lib.AtoiErrMem
import Derived.Shelf.Strings.SlTrimAscii
/- A document that may be, as a DocB. -/
namespace Go.Proofs.YtkmmlcnoeeaekaaGreatDoor
open Go.RowKit
set_option linter.unusedVariables false
set_option linter.unusedSimpArgs false

theorem firstE_zero {f : Nat → Int} : ∀ {n : Nat}, firstE f n = 0 → ∀ j, j < n → f j = 0
  | 0, _, j, hj => by omega
  | n + 1, h, j, hj => by
    rw [firstE] at h
    by_cases h0 : firstE f n = 0
    · rw [if_pos h0] at h
      rcases Nat.lt_or_ge j n with h1 | h1
      · exact firstE_zero h0 j h1
      · have e : j = n := by omega
        rw [e]; exact h
    · rw [if_neg h0] at h
      exact absurd h h0
theorem runK_all {ns : List NodeV} : ∀ (l : List (Nat × Int)) (seen : List Bool), (runK ns l seen).1 = 0 → ∀ p ∈ l, 0 ≤ p.2 ∧ p.2 < ns.length ∧ (nd ns p.2.toNat).parent = p.1
  | [], _, _, p, hp => by cases hp
  | (i, k) :: r, seen, h, p, hp => by
    rw [runK] at h
    split at h
    · cases h
    · rename_i h1
      split at h
      · cases h
      · rcases List.mem_cons.1 hp with rfl | hp
        · have a : ¬ k < 0 := fun hh => h1 (.inl hh)
          have b : ¬ (ns.length : Int) ≤ k := fun hh => h1 (.inr (.inl hh))
          have c : ¬ (nd ns k.toNat).parent ≠ i := fun hh => h1 (.inr (.inr (.inl hh)))
          refine ⟨?_, ?_, ?_⟩
          · show 0 ≤ k; omega
          · show k < ns.length; omega
          · exact Classical.not_not.1 c
        · exact runK_all r _ h p hp
theorem pairs_mem {ns : List NodeV} : ∀ (u j i : Nat) (k : Int), j ≤ i → i < j + u → k ∈ (nd ns i).kids → (i, k) ∈ pairs ns u j
  | 0, j, i, k, h1, h2, _ => by omega
  | u + 1, j, i, k, h1, h2, h3 => by
    rw [pairs, List.mem_append]
    by_cases e : j = i
    · subst e
      exact .inl (List.mem_map.2 ⟨k, h3, rfl⟩)
    · exact .inr (pairs_mem u (j + 1) i k (by omega) (by omega) h3)
theorem upF_fuel {ns : List NodeV} : ∀ (v u i : Nat), upF ns u i ≤ v → v ≤ u → upF ns v i = upF ns u i
  | 0, u, i, h, _ => by
    have : upF ns u i = 0 := by omega
    rw [this]; rfl
  | v + 1, u, i, h, hu => by
    cases u with
    | zero => omega
    | succ u =>
      rw [upF, upF]
      rw [upF] at h
      split
      · rename_i hp
        rw [if_pos hp] at h
        rw [upF_fuel v u _ (by omega) (by omega)]
      · rfl
/-- What a document that may be is like. -/
structure DocOk (ns : List NodeV) : Prop where
  len : ns.length ≤ 200
  pos : 0 < ns.length
  one : ∀ i, i < ns.length → nodeE ns i = 0
  kids : ∀ i, i < ns.length → ∀ k ∈ (nd ns i).kids, 0 ≤ k ∧ k < ns.length ∧ (nd ns k.toNat).parent = i
  up : ∀ i, i < ns.length → upF ns (ns.length + 1) i ≤ ns.length ∧ upF ns (ns.length + 1) i ≤ 40
theorem docOk {ns : List NodeV} (h : checkE ns = 0) : DocOk ns := by
  unfold checkE at h
  split at h
  · cases h
  rename_i h1
  split at h
  · cases h
  rename_i h2
  split at h
  · rename_i h3; exact absurd h h3
  rename_i h3
  split at h
  · rename_i h4; exact absurd h h4
  rename_i h4
  have h3' : firstE (nodeE ns) ns.length = 0 := Classical.not_not.1 h3
  have h4' : kidsE ns = 0 := Classical.not_not.1 h4
  refine ⟨by omega, by omega, firstE_zero h3', fun i hi k hk => ?_, fun i hi => ?_⟩
  · have h5 : (kidsR ns).1 = 0 := by
      unfold kidsE at h4'
      split at h4'
      · rename_i h6; exact absurd h4' h6
      · rename_i h6; exact Classical.not_not.1 h6
    exact runK_all _ _ h5 (i, k) (pairs_mem ns.length 0 i k (by omega) (by omega) hk)
  · have h5 := firstE_zero h i hi
    unfold upE at h5
    split at h5
    · cases h5
    · rename_i h6
      split at h5
      · cases h5
      · rename_i h7
        exact ⟨by omega, by omega⟩
/-- How deep a node stands: the deeper, the less. -/
def rankN (ns : List NodeV) (n : Nat) : Nat := 41 - upF ns (ns.length + 1) n
def kidN (ns : List NodeV) (n : Nat) : List Nat := if n < ns.length then (nd ns n).kids.map Int.toNat else []
theorem rank_deep {ns : List NodeV} (h : DocOk ns) (n k : Nat) (hk : k ∈ kidN ns n) : rankN ns k < rankN ns n := by
  unfold kidN at hk
  split at hk
  · rename_i hn
    rw [List.mem_map] at hk
    obtain ⟨z, hz, rfl⟩ := hk
    obtain ⟨h0, h1, h2⟩ := h.kids n hn z hz
    have hu := h.up n hn
    have hku := h.up z.toNat (by omega)
    have e : upF ns (ns.length + 1) z.toNat = upF ns ns.length n + 1 := by
      rw [upF, if_pos (by rw [h2]; omega), h2]
      rfl
    have e2 := upF_fuel (ns := ns) ns.length (ns.length + 1) n hu.1 (by omega)
    unfold rankN
    omega
  · cases hk
theorem kid_lt {ns : List NodeV} (h : DocOk ns) {n k : Nat} (hk : k ∈ kidN ns n) : k < ns.length := by
  unfold kidN at hk
  split at hk
  · rename_i hn
    rw [List.mem_map] at hk
    obtain ⟨z, hz, rfl⟩ := hk
    obtain ⟨h0, h1, _⟩ := h.kids n hn z hz
    omega
  · cases hk
def brS : ByteArray := ⟨#[98, 114]⟩
end Go.Proofs.YtkmmlcnoeeaekaaGreatDoor
/- A document that may be is a tree: no node stands below another twice. -/
namespace Go.Proofs.YtkmmlcnoeeaekaaGreatDoor
open Go.RowKit
set_option linter.unusedVariables false
set_option linter.unusedSimpArgs false

theorem runK_nodup {ns : List NodeV} : ∀ (l : List (Nat × Int)) (seen : List Bool), seen.length = ns.length → (runK ns l seen).1 = 0 → (l.map fun p => p.2.toNat).Nodup ∧ ∀ p ∈ l, seen.getD p.2.toNat false = false
  | [], _, _, _ => ⟨by simp, fun p hp => by cases hp⟩
  | (i, k) :: r, seen, hl, h => by
    rw [runK] at h
    split at h
    · cases h
    · rename_i h1
      split at h
      · cases h
      · have hk0 : ¬ k < 0 := fun hh => h1 (.inl hh)
        have hk1 : ¬ (ns.length : Int) ≤ k := fun hh => h1 (.inr (.inl hh))
        have hks : seen.getD k.toNat false = false := by
          cases hq : seen.getD k.toNat false with
          | false => rfl
          | true => exact absurd (.inr (.inr (.inr hq))) h1
        obtain ⟨h2, h3⟩ := runK_nodup r (seen.set k.toNat true) (by rw [List.length_set]; exact hl) h
        have hkn : ∀ p ∈ r, p.2.toNat ≠ k.toNat := fun p hp he => by
          have := h3 p hp
          rw [he, List.getD_eq_getElem?_getD, List.getElem?_set_self (by omega)] at this
          cases this
        refine ⟨?_, fun p hp => ?_⟩
        · rw [List.map_cons, List.nodup_cons]
          refine ⟨fun hm => ?_, h2⟩
          rw [List.mem_map] at hm
          obtain ⟨p, hp, he⟩ := hm
          exact hkn p hp he
        · rcases List.mem_cons.1 hp with rfl | hp
          · exact hks
          · have := h3 p hp
            rw [List.getD_eq_getElem?_getD, List.getElem?_set_ne (fun e => hkn p hp e.symm)] at this
            rw [List.getD_eq_getElem?_getD]
            exact this
theorem pairs_sub {ns : List NodeV} : ∀ (u j i : Nat), j ≤ i → i < j + u → List.Sublist ((nd ns i).kids.map fun k => (i, k)) (pairs ns u j)
  | 0, j, i, h1, h2 => by omega
  | u + 1, j, i, h1, h2 => by
    rw [pairs]
    by_cases e : j = i
    · subst e
      exact List.sublist_append_left _ _
    · exact (pairs_sub u (j + 1) i (by omega) (by omega)).trans (List.sublist_append_right _ _)
theorem kid_nodup {ns : List NodeV} (h : checkE ns = 0) (n : Nat) : (kidN ns n).Nodup := by
  unfold kidN
  split
  · rename_i hn
    have h5 : (kidsR ns).1 = 0 := by
      unfold checkE at h
      split at h
      · cases h
      split at h
      · cases h
      split at h
      · rename_i h3; exact absurd h h3
      split at h
      · rename_i h4; exact absurd h h4
      · rename_i h4
        have h4' : kidsE ns = 0 := Classical.not_not.1 h4
        unfold kidsE at h4'
        split at h4'
        · rename_i h6; exact absurd h4' h6
        · rename_i h6; exact Classical.not_not.1 h6
    obtain ⟨h6, _⟩ := runK_nodup _ _ (by simp) h5
    have h7 := ((pairs_sub (ns := ns) ns.length 0 n (by omega) (by omega)).map (fun p : Nat × Int => p.2.toNat)).nodup h6
    rw [List.map_map] at h7
    exact h7
  · simp
theorem nodup_lt : ∀ (n : Nat) (l : List Nat), l.Nodup → (∀ d ∈ l, d < n) → l.length ≤ n
  | 0, l, _, h => by
    cases l with
    | nil => simp
    | cons a l => have := h a (by simp); omega
  | n + 1, l, hn, h => by
    by_cases hm : n ∈ l
    · have h1 := nodup_lt n (l.erase n) (hn.erase n) (fun d hd => by
        have h2 := (hn.mem_erase_iff).1 hd
        have h3 := h d h2.2
        have h4 := h2.1
        omega)
      rw [List.length_erase_of_mem hm] at h1
      omega
    · have h1 := nodup_lt n l hn (fun d hd => by
        have h3 := h d hd
        have h4 : d ≠ n := fun e => hm (e ▸ hd)
        omega)
      omega
/-- The j-th node above. -/
def ancN (ns : List NodeV) : Nat → Nat → Nat
  | 0, k => k
  | j + 1, k => ancN ns j (nd ns k).parent.toNat
/-- All nodes below. -/
def subN (ns : List NodeV) : Nat → Nat → List Nat
  | 0, _ => []
  | u + 1, n => (kidN ns n).flatMap fun k => k :: subN ns u k
theorem ancN_snoc (ns : List NodeV) : ∀ (j k : Nat), ancN ns (j + 1) k = (nd ns (ancN ns j k)).parent.toNat
  | 0, _ => rfl
  | j + 1, k => by
    show ancN ns (j + 1) (nd ns k).parent.toNat = _
    rw [ancN_snoc ns j]
    rfl
theorem kid_parent {ns : List NodeV} (h : DocOk ns) {n k : Nat} (hk : k ∈ kidN ns n) : (nd ns k).parent.toNat = n ∧ n < ns.length := by
  unfold kidN at hk
  split at hk
  · rename_i hn
    rw [List.mem_map] at hk
    obtain ⟨z, hz, rfl⟩ := hk
    obtain ⟨h0, h1, h2⟩ := h.kids n hn z hz
    rw [h2]
    exact ⟨by simp, hn⟩
  · cases hk
theorem sub_rank {ns : List NodeV} (h : DocOk ns) : ∀ (u n d : Nat), d ∈ subN ns u n → d < ns.length ∧ ∃ j, 0 < j ∧ ancN ns j d = n ∧ rankN ns n = rankN ns d + j
  | 0, _, _, hd => by cases hd
  | u + 1, n, d, hd => by
    rw [subN, List.mem_flatMap] at hd
    obtain ⟨k, hk, hd⟩ := hd
    have hp := kid_parent h hk
    have hkl := kid_lt h hk
    have hr : rankN ns n = rankN ns k + 1 := by
      have hu := h.up n hp.2
      have hku := h.up k hkl
      have e2 := upF_fuel (ns := ns) ns.length (ns.length + 1) n hu.1 (by omega)
      have e : upF ns (ns.length + 1) k = upF ns ns.length n + 1 := by
        unfold kidN at hk
        rw [if_pos hp.2, List.mem_map] at hk
        obtain ⟨z, hz, rfl⟩ := hk
        obtain ⟨h0, h1, h2⟩ := h.kids n hp.2 z hz
        rw [upF, if_pos (by rw [h2]; omega), h2]
        rfl
      unfold rankN
      omega
    rcases List.mem_cons.1 hd with rfl | hd
    · exact ⟨hkl, 1, by omega, hp.1, by omega⟩
    · obtain ⟨h1, j, hj, h2, h3⟩ := sub_rank h u k d hd
      exact ⟨h1, j + 1, by omega, by rw [ancN_snoc, h2]; exact hp.1, by omega⟩
theorem sub_nodup {ns : List NodeV} (hc : checkE ns = 0) : ∀ (u n : Nat), (subN ns u n).Nodup
  | 0, _ => by simp [subN]
  | u + 1, n => by
    have h := docOk hc
    rw [subN]
    refine List.pairwise_flatMap.2 ⟨fun k hk => ?_, ?_⟩
    · refine List.nodup_cons.2 ⟨fun hm => ?_, sub_nodup hc u k⟩
      obtain ⟨_, j, hj, _, h3⟩ := sub_rank h u k k hm
      omega
    · refine List.Pairwise.imp_of_mem ?_ (kid_nodup hc n)
      intro a b ha hb hne
      intro d hda d2 hdb he
      subst he
      have key : ∀ k ∈ kidN ns n, d ∈ k :: subN ns u k → ∃ j, ancN ns j d = k ∧ rankN ns k = rankN ns d + j := fun k hk hd => by
        rcases List.mem_cons.1 hd with rfl | hd
        · exact ⟨0, rfl, rfl⟩
        · obtain ⟨_, j, _, h2, h3⟩ := sub_rank h u k d hd
          exact ⟨j, h2, h3⟩
      obtain ⟨ja, ea, ra⟩ := key a ha hda
      obtain ⟨jb, eb, rb⟩ := key b hb hdb
      have r1 : rankN ns n = rankN ns a + 1 := by
        obtain ⟨_, j, hj, h2, h3⟩ := sub_rank h 1 n a (by rw [subN, List.mem_flatMap]; exact ⟨a, ha, by simp⟩)
        have hd1 := rank_deep h n a ha
        obtain ⟨j1, hj1⟩ : ∃ j1, j = j1 + 1 := ⟨j - 1, by omega⟩
        subst hj1
        have hpa := kid_parent h ha
        have hal := kid_lt h ha
        have hu := h.up n hpa.2
        have hku := h.up a hal
        have e2 := upF_fuel (ns := ns) ns.length (ns.length + 1) n hu.1 (by omega)
        have e : upF ns (ns.length + 1) a = upF ns ns.length n + 1 := by
          unfold kidN at ha
          rw [if_pos hpa.2, List.mem_map] at ha
          obtain ⟨z, hz, rfl⟩ := ha
          obtain ⟨h0, h1, h2⟩ := h.kids n hpa.2 z hz
          rw [upF, if_pos (by rw [h2]; omega), h2]
          rfl
        unfold rankN
        omega
      have r2 : rankN ns n = rankN ns b + 1 := by
        have hpa := kid_parent h hb
        have hal := kid_lt h hb
        have hu := h.up n hpa.2
        have hku := h.up b hal
        have e2 := upF_fuel (ns := ns) ns.length (ns.length + 1) n hu.1 (by omega)
        have e : upF ns (ns.length + 1) b = upF ns ns.length n + 1 := by
          unfold kidN at hb
          rw [if_pos hpa.2, List.mem_map] at hb
          obtain ⟨z, hz, rfl⟩ := hb
          obtain ⟨h0, h1, h2⟩ := h.kids n hpa.2 z hz
          rw [upF, if_pos (by rw [h2]; omega), h2]
          rfl
        unfold rankN
        omega
      have ej : ja = jb := by omega
      subst ej
      exact hne (ea.symm.trans eb)
theorem sub_len {ns : List NodeV} (hc : checkE ns = 0) (u n : Nat) : (subN ns u n).length ≤ ns.length := by
  have h := docOk hc
  have h1 := sub_nodup hc u n
  have h2 : subN ns u n ⊆ List.range ns.length := fun d hd => List.mem_range.2 (sub_rank h u n d hd).1
  exact nodup_lt _ _ h1 fun d hd => List.mem_range.1 (h2 hd)
end Go.Proofs.YtkmmlcnoeeaekaaGreatDoor
/- Contracts of white.Collapse and of the reference's Collapse. -/
namespace Go.Proofs.YtkmmlcnoeeaekaaGreatDoor
open Go.RowKit
set_option linter.unusedVariables false

/-- A blank. -/
def isB (c : UInt8) : Bool := c == 32 || c == 9 || c == 10 || c == 12 || c == 13
theorem ret_bool {a b : Bool} (h : a = b) : Ending.returned (.bool a) = .returned (.bool b) := by rw [h]
/-- A list of bytes as cells. -/
def u8s (l : List UInt8) : List Value := l.map fun c => .int .u8 c.toNat
theorem Holds.u8s {w : World} {B : Nat} {A : Option Addr} {l : List UInt8} (h : Holds w B A (u8s l)) {k : Nat} (hk : k < l.length) :
    ∃ b off, A = some ⟨b, off, none⟩ ∧ b < B ∧ w.cell? ⟨b, off + k, none⟩ = some (.int .u8 (l[k]).toNat) := by
  obtain ⟨b, off, e, hlt, hc⟩ := h (by simp [Go.Proofs.YtkmmlcnoeeaekaaGreatDoor.u8s]; omega)
  refine ⟨b, off, e, hlt, ?_⟩
  rw [hc k (by simpa [Go.Proofs.YtkmmlcnoeeaekaaGreatDoor.u8s] using hk)]
  simp [Go.Proofs.YtkmmlcnoeeaekaaGreatDoor.u8s, List.getD, hk]
set_option maxHeartbeats 400000 in
theorem hasByte_calls (A : Option Addr) (n cap B : Nat) (l : List UInt8) (c : UInt8) (w : World) (hn : l.length = n) (h : Holds w B A (u8s l)) (hm : n ≤ 9223372036854775807) :
    Calls Tryz.prog 209 #[.slice A n cap, .int .u8 c.toNat] w fun e w' => e = .returned (.bool (l.contains c)) ∧ w = w' := by
  subst hn
  go_enter Tryz.func209, Tryz.ntmps209
  go_wp2
  go_loop [9] (fun i => ∃ k : Nat, k ≤ l.length ∧ i = .int .i64 k ∧ Hid (∀ j (hj : j < l.length), j < k → ¬ l[j] = c)) (fun i => l.length - (intOf i).toNat)
  case atStart => exact ⟨0, Nat.zero_le _, rfl, fun j _ hj => absurd hj (by omega)⟩
  case round =>
    obtain ⟨k, hk, rfl, H⟩ := hrel
    by_cases hlt : k < l.length
    · obtain ⟨b, off, rfl, hb, hc⟩ := h.u8s hlt
      obtain ⟨z, hz⟩ : ∃ z, z = l[k] := ⟨_, rfl⟩
      rw [← hz] at hc
      have HZ := Lib.hid hz
      clear hz h
      by_cases hzc : z = c
      · subst hzc
        go_wp2
        go_ret
        exact ⟨ret_bool (by rw [HZ.out]; simp), rfl⟩
      · have hne : ((z.toNat : Int) == (c.toNat : Int)) = false := by
          simp only [beq_eq_false_iff_ne, ne_eq]
          intro e
          exact hzc (UInt8.toNat_inj.1 (by omega))
        have hne' : ((c.toNat : Int) == (z.toNat : Int)) = false := by
          simp only [beq_eq_false_iff_ne, ne_eq]
          intro e
          exact hzc (UInt8.toNat_inj.1 (by omega))
        go_wp2
        go_round
        case rel =>
          refine ⟨k + 1, by omega, by go_num, fun j hj hjk => ?_⟩
          by_cases e : j = k
          · subst e; rw [← HZ.out]; exact hzc
          · exact H.out j hj (by omega)
        case measure => simp [intOf]; omega
    · have e : k = l.length := by omega
      subst e
      clear h
      go_wp2
      go_ret
      refine ⟨ret_bool ?_, rfl⟩
      have : ¬ c ∈ l := fun hc => by
        obtain ⟨j, hj, e⟩ := List.mem_iff_getElem.1 hc
        exact H.out j hj hj e
      simpa using this
set_option maxHeartbeats 400000 in
theorem rblank_calls (c : UInt8) (w : World) :
    Calls Tryz.prog 185 #[.int .u8 c.toNat] w fun e w' => e = .returned (.bool (isB c)) ∧ Below w.heap.size w w' := by
  have hc := hasByte_calls (some ⟨w.heap.size, 0, none⟩) 5 5 (w.heap.size + 1) [32, 9, 10, 12, 13] c (w.alloc (.cells #[.int .u8 32, .int .u8 9, .int .u8 10, .int .u8 12, .int .u8 13] 5)) rfl (Holds.new w _ _) (by omega)
  have e : [32, 9, 10, 12, 13].contains c = isB c := by simp [isB, List.contains, List.elem, Bool.or_assoc]; cases c == 32 <;> cases c == 9 <;> cases c == 10 <;> cases c == 12 <;> cases c == 13 <;> rfl
  rw [e] at hc
  have HC := Lib.hid hc
  clear hc e
  go_enter Tryz.func185, Tryz.ntmps185
  go_wp2_with (go_at_call 209; refine HC.out.mono ?_; rintro e w' ⟨rfl, rfl⟩)
  go_ret
  exact ⟨rfl, below_alloc (Below.refl _ _) _⟩

theorem keeps_calls (m : Int) (w : World) :
    Calls Tryz.prog 180 #[.int .i64 m] w fun e w' => e = .returned (.bool (m == 1 || m == 3)) ∧ w = w' := by
  go_enter Tryz.func180, Tryz.ntmps180
  go_wp2
  all_goals
    go_ret
    refine ⟨ret_bool ?_, rfl⟩
    first | rfl | (simp [*]; done)
theorem fold_push (l : List UInt8) : ∀ r : ByteArray, (l.map fun c => ((c.toNat : Nat) : Int)).foldl (fun r n => r.push (UInt8.ofNat n.toNat)) r = ⟨r.data ++ l.toArray⟩ := by
  induction l with
  | nil => intro r; cases r; simp
  | cons c l ih =>
    intro r
    rw [List.map_cons, List.foldl_cons, ih]
    congr 1
    apply Array.ext'
    simp [ByteArray.push]
theorem byteArray_toList (l : List UInt8) : (⟨l.toArray⟩ : ByteArray).toList = l := by
  rw [ByteArray.toList_eq]
end Go.Proofs.YtkmmlcnoeeaekaaGreatDoor
/- Contracts of white.Turn, Idle and of the reference's. -/
namespace Go.Proofs.YtkmmlcnoeeaekaaGreatDoor
open Go.RowKit
set_option linter.unusedVariables false
set_option linter.unusedSimpArgs false

/-- P305: a letter turned. -/
def turnB (m : Int) (c : UInt8) : UInt8 := if m = 1 then (if 97 ≤ c ∧ c ≤ 122 then c - 32 else c) else if m = 2 then (if 65 ≤ c ∧ c ≤ 90 then c + 32 else c) else c
theorem up_all : ∀ i : Fin 256, 97 ≤ i.val → i.val ≤ 122 → ((UInt8.ofNat i.val) - 32).toNat = i.val - 32 := by decide +kernel
theorem low_all : ∀ i : Fin 256, 65 ≤ i.val → i.val ≤ 90 → ((UInt8.ofNat i.val) + 32).toNat = i.val + 32 := by decide +kernel
theorem u8_le (a b : UInt8) : a ≤ b ↔ a.toNat ≤ b.toNat := UInt8.le_iff_toNat_le
theorem turn_up (c : UInt8) (h1 : 97 ≤ (c.toNat : Int)) (h2 : (c.toNat : Int) ≤ 122) : ((turnB 1 c).toNat : Int) = (c.toNat : Int) - 32 := by
  have h := up_all ⟨c.toNat, c.toNat_lt⟩ (by simp; omega) (by simp; omega)
  simp at h
  have hc : 97 ≤ c ∧ c ≤ 122 := by rw [u8_le, u8_le]; constructor <;> simp <;> omega
  unfold turnB; rw [if_pos rfl, if_pos hc, h]; omega
theorem turn_low (c : UInt8) (h1 : 65 ≤ (c.toNat : Int)) (h2 : (c.toNat : Int) ≤ 90) : ((turnB 2 c).toNat : Int) = (c.toNat : Int) + 32 := by
  have h := low_all ⟨c.toNat, c.toNat_lt⟩ (by simp; omega) (by simp; omega)
  simp only [UInt8.ofNat_toNat] at h
  have hc : 65 ≤ c ∧ c ≤ 90 := by rw [u8_le, u8_le]; constructor <;> simp <;> omega
  unfold turnB; rw [if_neg (by decide), if_pos rfl, if_pos hc, h]; omega
theorem turn_up_no (c : UInt8) (h : ¬ (97 ≤ (c.toNat : Int) ∧ (c.toNat : Int) ≤ 122)) : turnB 1 c = c := by
  have hc : ¬ (97 ≤ c ∧ c ≤ 122) := by rw [u8_le, u8_le]; simp; omega
  unfold turnB; rw [if_pos rfl, if_neg hc]
theorem turn_low_no (c : UInt8) (h : ¬ (65 ≤ (c.toNat : Int) ∧ (c.toNat : Int) ≤ 90)) : turnB 2 c = c := by
  have hc : ¬ (65 ≤ c ∧ c ≤ 90) := by rw [u8_le, u8_le]; simp; omega
  unfold turnB; rw [if_neg (by decide), if_pos rfl, if_neg hc]
theorem turn_other (m : Int) (c : UInt8) (h1 : ¬ m = 1) (h2 : ¬ m = 2) : turnB m c = c := by
  unfold turnB; rw [if_neg h1, if_neg h2]
def turnS (m : Int) (s : ByteArray) : ByteArray := ⟨(s.data.toList.map (turnB m)).toArray⟩
theorem turnS_other (m : Int) (s : ByteArray) (h1 : ¬ m = 1) (h2 : ¬ m = 2) : turnS m s = s := by
  unfold turnS
  have : s.data.toList.map (turnB m) = s.data.toList := by
    conv => rhs; rw [← List.map_id s.data.toList]
    apply List.map_congr_left
    intro c _
    exact turn_other m c h1 h2
  rw [this]
/-- Block g holds n bytes, of which the first k are turned. -/
def BB (w : World) (g n : Nat) (l : List UInt8) (m : Int) (k : Nat) : Prop :=
  ∀ j, j < n → w.cell? ⟨g, j, none⟩ = some (.int .u8 ((if j < k then turnB m (l.getD j 0) else l.getD j 0).toNat : Nat)) ∧ w.frozen? ⟨g, j, none⟩ = false
theorem BB.step {w : World} {g n : Nat} {l : List UInt8} {m : Int} {k : Nat} (h : BB w g n l m k) (hk : k < n) {x : Int} (hx : ((turnB m (l.getD k 0)).toNat : Int) = x) : BB (w.setCell ⟨g, k, none⟩ (.int .u8 x)) g n l m (k + 1) := fun j hj => by
  obtain ⟨h1, h2⟩ := h j hj
  refine ⟨?_, by rw [World.frozen?_setCell]; exact h2⟩
  by_cases e : j = k
  · subst e
    rw [World.cell?_setCell_same w _ _ h1, if_pos (by omega), hx]
  · rw [World.cell?_setCell_other w _ _ _ (by intro h'; injection h' with _ h'; exact e h'.symm), h1]
    by_cases e2 : j < k
    · rw [if_pos e2, if_pos (by omega)]
    · rw [if_neg e2, if_neg (by omega)]
theorem BB.skip {w : World} {g n : Nat} {l : List UInt8} {m : Int} {k : Nat} (h : BB w g n l m k) (hx : turnB m (l.getD k 0) = l.getD k 0) : BB w g n l m (k + 1) := fun j hj => by
  obtain ⟨h1, h2⟩ := h j hj
  refine ⟨?_, h2⟩
  rw [h1]
  by_cases e : j = k
  · subst e; rw [if_neg (by omega), if_pos (by omega), hx]
  · by_cases e2 : j < k
    · rw [if_pos e2, if_pos (by omega)]
    · rw [if_neg e2, if_neg (by omega)]
theorem run_string_cells (w : World) (g cap : Nat) (l : List UInt8) (h : ∀ j u, (u8s l)[j]? = some u → w.cell? ((⟨g, 0, none⟩ : Addr).add j) = some u) :
    (convert 186 9 (.slice (some ⟨g, 0, none⟩) l.length cap)).run Tryz.prog w = .ok (.string ⟨l.toArray⟩) w := by
  rw [run_convert_bytes_string w 186 9 5 _ _ _ Tryz.underlying186 Tryz.underlying5 Tryz.underlying9]
  have hl : (loadCells ⟨g, 0, none⟩ l.length).run Tryz.prog w = .ok ((l.map fun c => ((c.toNat : Nat) : Int)).map (Value.int .u8)).toArray w := by
    have := run_loadCells_list (P := Tryz.prog) w ⟨g, 0, none⟩ (u8s l) h
    have e : (l.map fun c => ((c.toNat : Nat) : Int)).map (Value.int .u8) = u8s l := by simp [u8s]
    rw [e]
    simpa [u8s] using this
  rw [run_bytesToString w _ _ _ _ hl, fold_push]
  simp [ByteArray.empty, ByteArray.emptyWithCapacity]
  rfl
theorem BB.all {w : World} {g : Nat} {l : List UInt8} {m : Int} (h : BB w g l.length l m l.length) : ∀ j u, (u8s (l.map (turnB m)))[j]? = some u → w.cell? ((⟨g, 0, none⟩ : Addr).add j) = some u := fun j u hu => by
  have hj : j < l.length := by
    rcases Nat.lt_or_ge j l.length with h1 | h1
    · exact h1
    · rw [List.getElem?_eq_none (by simpa [u8s] using h1)] at hu; cases hu
  have e : (⟨g, 0, none⟩ : Addr).add j = ⟨g, j, none⟩ := by unfold Addr.add; split <;> simp_all
  rw [e, (h j hj).1, ← hu, if_pos hj]
  simp [u8s, List.getD, hj]
theorem bytes_free (w : World) (e : TypeId) (s : ByteArray) (j : Nat) (hj : j < s.size) : (Lib.bytesWorld w e s).frozen? ⟨w.heap.size, j, none⟩ = false := by
  have h : s.size ≤ (Lib.bytesCells w e s).size := by simp [Lib.bytesCells]
  simp [World.frozen?, Lib.bytesWorld_at_new]; omega
set_option maxRecDepth 100000 in
set_option maxHeartbeats 1000000 in
theorem turn1_calls (s : ByteArray) (w : World) (hs : s.size ≤ 400) :
    Calls Tryz.prog 109 #[.string s, .int .i64 1] w fun e w' => e = .returned (.string (turnS 1 s)) ∧ Below w.heap.size w w' := by
  have hconv := Lib.run_convert_string_bytes (P := Tryz.prog) w 9 186 5 s Tryz.underlying9 Tryz.underlying186 Tryz.underlying5
  have hbb : BB (Lib.bytesWorld w 5 s) w.heap.size s.size s.data.toList 1 0 := fun j hj => ⟨by rw [Lib.bytesWorld_cell w _ s j hj, if_neg (by omega)], bytes_free w _ s j hj⟩
  have hbel := Lib.bytesWorld_below w 5 s
  have hl : s.data.toList.length = s.size := by rw [Array.length_toList]; rfl
  have HL := Lib.hid hl
  have HBB := Lib.hid hbb
  have HBEL := Lib.hid hbel
  obtain ⟨cp, hcp⟩ : ∃ cp, cp = grownCap w s.size 0 5 := ⟨_, rfl⟩
  rw [← hcp] at hconv
  clear hl hbb hbel hcp
  obtain ⟨r, hr⟩ : ∃ r, r = turnS 1 s := ⟨_, rfl⟩
  rw [← hr]
  have HRS := Lib.hid hr
  clear hr
  go_enter Tryz.func109, Tryz.ntmps109
  go_wp2_with fail
  clear hconv
  go_loopw [24] (fun i wr => ∃ k : Nat, k ≤ s.size ∧ i = .int .i64 k ∧ BB wr w.heap.size s.size s.data.toList 1 k ∧ Below w.heap.size w wr) (fun i _ => s.size - (intOf i).toNat)
  case atStart => exact ⟨0, Nat.zero_le _, rfl, HBB.out, HBEL.out⟩
  case round =>
    obtain ⟨k, hk, rfl, hbb, hbel⟩ := hrel
    by_cases hlt : k < s.size
    · obtain ⟨c0, f0⟩ := hbb k hlt
      rw [if_neg (by omega)] at c0
      have HX := Lib.hid hbb
      obtain ⟨c, hc⟩ : ∃ c, c = s.data.toList.getD k 0 := ⟨_, rfl⟩
      rw [← hc] at c0
      have HC := Lib.hid hc
      have hc256 := c.toNat_lt
      have KK := Lib.hid (show k ≤ s.size ∧ k < s.size from ⟨hk, hlt⟩)
      clear hbb hc
      by_cases h1 : 97 ≤ (c.toNat : Int)
      · by_cases h2 : (c.toNat : Int) ≤ 122
        · have HT := Lib.hid (turn_up c h1 h2)
          go_wp2_with fail
          go_roundw
          case rel => exact ⟨k + 1, by have := KK.out; omega, by go_num, HX.out.step KK.out.2 (by rw [← HC.out, HT.out]; try omega), below_set hbel (Nat.le_refl _) _⟩
          case measure => have := KK.out; simp [intOf]; omega
        · have HT := Lib.hid (turn_up_no c (by omega))
          go_wp2_with fail
          go_roundw
          case rel => exact ⟨k + 1, by have := KK.out; omega, by go_num, HX.out.skip (by rw [← HC.out]; exact HT.out), hbel⟩
          case measure => have := KK.out; simp [intOf]; omega
      · have HT := Lib.hid (turn_up_no c (by omega))
        go_wp2_with fail
        go_roundw
        case rel => exact ⟨k + 1, by have := KK.out; omega, by go_num, HX.out.skip (by rw [← HC.out]; exact HT.out), hbel⟩
        case measure => have := KK.out; simp [intOf]; omega
    · have e : k = s.data.toList.length := by have := HL.out; omega
      subst e
      rw [← HL.out] at hbb
      have hst := run_string_cells wr w.heap.size cp (s.data.toList.map (turnB 1)) hbb.all
      have e2 : (s.data.toList.map (turnB 1)).length = s.size := by rw [List.length_map]; exact HL.out
      rw [e2] at hst
      have e3 : (⟨(s.data.toList.map (turnB 1)).toArray⟩ : ByteArray) = turnS 1 s := rfl
      rw [e3] at hst
      rw [← HRS.out] at hst
      clear e2 e3 hbb
      go_wp2_with fail
      go_ret
      exact ⟨rfl, hbel⟩
set_option maxRecDepth 100000 in
set_option maxHeartbeats 1000000 in
theorem turn2_calls (s : ByteArray) (w : World) (hs : s.size ≤ 400) :
    Calls Tryz.prog 109 #[.string s, .int .i64 2] w fun e w' => e = .returned (.string (turnS 2 s)) ∧ Below w.heap.size w w' := by
  have hconv := Lib.run_convert_string_bytes (P := Tryz.prog) w 9 186 5 s Tryz.underlying9 Tryz.underlying186 Tryz.underlying5
  have hbb : BB (Lib.bytesWorld w 5 s) w.heap.size s.size s.data.toList 2 0 := fun j hj => ⟨by rw [Lib.bytesWorld_cell w _ s j hj, if_neg (by omega)], bytes_free w _ s j hj⟩
  have hbel := Lib.bytesWorld_below w 5 s
  have hl : s.data.toList.length = s.size := by rw [Array.length_toList]; rfl
  have HL := Lib.hid hl
  have HBB := Lib.hid hbb
  have HBEL := Lib.hid hbel
  obtain ⟨cp, hcp⟩ : ∃ cp, cp = grownCap w s.size 0 5 := ⟨_, rfl⟩
  rw [← hcp] at hconv
  clear hl hbb hbel hcp
  obtain ⟨r, hr⟩ : ∃ r, r = turnS 2 s := ⟨_, rfl⟩
  rw [← hr]
  have HRS := Lib.hid hr
  clear hr
  go_enter Tryz.func109, Tryz.ntmps109
  go_wp2_with fail
  clear hconv
  go_loopw [24] (fun i wr => ∃ k : Nat, k ≤ s.size ∧ i = .int .i64 k ∧ BB wr w.heap.size s.size s.data.toList 2 k ∧ Below w.heap.size w wr) (fun i _ => s.size - (intOf i).toNat)
  case atStart => exact ⟨0, Nat.zero_le _, rfl, HBB.out, HBEL.out⟩
  case round =>
    obtain ⟨k, hk, rfl, hbb, hbel⟩ := hrel
    by_cases hlt : k < s.size
    · obtain ⟨c0, f0⟩ := hbb k hlt
      rw [if_neg (by omega)] at c0
      have HX := Lib.hid hbb
      obtain ⟨c, hc⟩ : ∃ c, c = s.data.toList.getD k 0 := ⟨_, rfl⟩
      rw [← hc] at c0
      have HC := Lib.hid hc
      have hc256 := c.toNat_lt
      have KK := Lib.hid (show k ≤ s.size ∧ k < s.size from ⟨hk, hlt⟩)
      clear hbb hc
      by_cases h1 : 65 ≤ (c.toNat : Int)
      · by_cases h2 : (c.toNat : Int) ≤ 90
        · have HT := Lib.hid (turn_low c h1 h2)
          go_wp2_with fail
          go_roundw
          case rel => exact ⟨k + 1, by have := KK.out; omega, by go_num, HX.out.step KK.out.2 (by rw [← HC.out, HT.out]; try omega), below_set hbel (Nat.le_refl _) _⟩
          case measure => have := KK.out; simp [intOf]; omega
        · have HT := Lib.hid (turn_low_no c (by omega))
          go_wp2_with fail
          go_roundw
          case rel => exact ⟨k + 1, by have := KK.out; omega, by go_num, HX.out.skip (by rw [← HC.out]; exact HT.out), hbel⟩
          case measure => have := KK.out; simp [intOf]; omega
      · have HT := Lib.hid (turn_low_no c (by omega))
        go_wp2_with fail
        go_roundw
        case rel => exact ⟨k + 1, by have := KK.out; omega, by go_num, HX.out.skip (by rw [← HC.out]; exact HT.out), hbel⟩
        case measure => have := KK.out; simp [intOf]; omega
    · have e : k = s.data.toList.length := by have := HL.out; omega
      subst e
      rw [← HL.out] at hbb
      have hst := run_string_cells wr w.heap.size cp (s.data.toList.map (turnB 2)) hbb.all
      have e2 : (s.data.toList.map (turnB 2)).length = s.size := by rw [List.length_map]; exact HL.out
      rw [e2] at hst
      have e3 : (⟨(s.data.toList.map (turnB 2)).toArray⟩ : ByteArray) = turnS 2 s := rfl
      rw [e3] at hst
      rw [← HRS.out] at hst
      clear e2 e3 hbb
      go_wp2_with fail
      go_ret
      exact ⟨rfl, hbel⟩
theorem turn_calls (s : ByteArray) (m : Int) (w : World) (hs : s.size ≤ 400) :
    Calls Tryz.prog 109 #[.string s, .int .i64 m] w fun e w' => e = .returned (.string (turnS m s)) ∧ Below w.heap.size w w' := by
  by_cases h1 : m = 1
  · subst h1; exact turn1_calls s w hs
  · by_cases h2 : m = 2
    · subst h2; exact turn2_calls s w hs
    · rw [turnS_other m s h1 h2]
      have e1 : (m == 1) = false := by simpa using h1
      have e2 : (m == 2) = false := by simpa using h2
      go_enter Tryz.func109, Tryz.ntmps109
      go_wp2_with fail
      go_ret
      exact ⟨rfl, Below.refl _ _⟩
end Go.Proofs.YtkmmlcnoeeaekaaGreatDoor
