/- strconv.FormatUint at base 10. Conditions: none. -/
import Derived.Test.YtdhkmgloghlnnaaGreatDoorPShf
import Derived.Lib.ItoaMem
import Derived.Sort.Grow
import Derived.Test.YtdhkmgloghlnnaaGreatDoorPSg
import Derived.Test.YtdhkmgloghlnnaaGreatDoorKmZb
namespace Go.Proofs.Bfu
open Go.Shelf Go.RowKit Go.Sort Go.Lib Go.Proofs
set_option linter.unusedVariables false
theorem holds_zero0 (w : World) (T : TypeId) (nd : Nat) (hs : nd ≤ 24) : Holds (fun (b : UInt8) => Value.int .u8 (b.toNat : Int)) (w.alloc (.cells zeros24 T)) w.heap.size 0 (Array.replicate nd (0 : UInt8)) := fun j hj => by
  have hj' : j < nd := by simpa using hj
  rw [World.cell?_alloc_new, zeros24_at (0 + j) (by omega)]
  simp [hj', World.frozen?_alloc_new]
theorem fin0 (w : World) (o : Obj) (dk : Array UInt8) (k : Nat) : ∃ os, (putRow (fun (b : UInt8) => Value.int .u8 (b.toNat : Int)) (w.alloc o) w.heap.size 0 dk).drewN k = grow (w.drewN k) os := by
  rw [alloc_eq_grow]
  obtain ⟨os', _, e⟩ := putRow_grow_new (fun (b : UInt8) => Value.int .u8 (b.toNat : Int)) w #[o] w.heap.size 0 dk (Nat.le_refl _)
  exact ⟨os', by rw [e]; rfl⟩
set_option maxHeartbeats 6400000 in
set_option maxRecDepth 100000 in
theorem inner (u : Nat) (hu64 : u < 18446744073709551616) (w : World) (htab : Lib.TabIs Tryz.prog w "internal/strconv.uint64pow10" .u64 Lib.pow10Tab) :
    Calls Tryz.prog 69 #[.int .u64 u, .int .i64 10] w fun e w' => e = .returned (.string ⟨(Lib.decDigits u).toArray⟩) ∧ ∃ k os, w' = grow (w.drewN k) os := by
  have mixed : Tryz.prog.follows .mixedOrders = true := by kernel_rfl
  have t3 := Tryz.underlying3; have a3 := Tryz.isAgg3; have z3 := Tryz.sizeOf3; have v3 := Tryz.zeroValue3
  have t9 := Tryz.underlying9; have a9 := Tryz.isAgg9; have z9 := Tryz.sizeOf9; have v9 := Tryz.zeroValue9
  have t4 := Tryz.underlying4; have a4 := Tryz.isAgg4; have z4 := Tryz.sizeOf4; have v4 := Tryz.zeroValue4
  have t0 := Tryz.underlying0; have a0 := Tryz.isAgg0; have z0 := Tryz.sizeOf0; have v0 := Tryz.zeroValue0
  have t80 := Tryz.underlying80; have a80 := Tryz.isAgg80; have z80 := Tryz.sizeOf80; have v80 := Tryz.zeroValue80
  have t41 := Tryz.underlying41; have a41 := Tryz.isAgg41; have z41 := Tryz.sizeOf41; have v41 := Tryz.zeroValue41
  have t5 := Tryz.underlying5; have a5 := Tryz.isAgg5; have z5 := Tryz.sizeOf5; have v5 := Tryz.zeroValue5
  have t105 := Tryz.underlying105; have a105 := Tryz.isAgg105; have z105 := Tryz.sizeOf105; have v105 := Tryz.zeroValue105
  have e83 : ∀ args w, (callFunc 83 args).run Tryz.prog w = .ok (.enter 83 args) w := enters_of Tryz.func83 (by kernel_rfl) rfl
  have e84 : ∀ args w, (callFunc 84 args).run Tryz.prog w = .ok (.enter 84 args) w := enters_of Tryz.func84 (by kernel_rfl) rfl
  have e85 : ∀ args w, (callFunc 85 args).run Tryz.prog w = .ok (.enter 85 args) w := enters_of Tryz.func85 (by kernel_rfl) rfl
  by_cases hs : u < 100
  · have hw : IntKind.i64.wrap (u : Int) = (u : Int) := by rw [IntKind.wrap_i64]; omega
    go_enter Tryz.func69, Tryz.ntmps69
    go_wp2_with (go_at_fn 83; refine (Tryz.internal_strconv_small u hs _).mono ?_; rintro e w' ⟨rfl, rfl⟩)
    go_ret
    exact ⟨rfl, 0, #[], by simp [World.drewN_zero]⟩
  · have hu1 : 1 ≤ u := by omega
    have hnd20 : Lib.nDigits u ≤ 20 := by have := Lib.numDigits_eq u hu1 hu64; split at this <;> omega
    have hal : Tryz.prog.arrayLen 105 = 24 := by simp [Program.arrayLen, t105]
    have hsl1 : ∀ W, (Instr.sliceAt 105 (.pointer (some ⟨w.heap.size, 0, none⟩)) none (some (.int .i64 (Lib.nDigits u : Int))) none).run Tryz.prog W = .ok (.slice (some ⟨w.heap.size, 0, none⟩) (Lib.nDigits u) 24) W := fun W => by
      rw [run_sliceAt_array_h W 105 ⟨w.heap.size, 0, none⟩ (by simp [Program.arrayLen, Program.elem, t105]) .i64 (Lib.nDigits u : Int) (by omega) (by rw [hal]; omega)]
      go_simp
    have hH0 := holds_zero0 w 105 (Lib.nDigits u) (by omega)
    have hfmt := Tryz.internal_strconv_formatBase10 w.heap.size 0 24 u (Array.replicate (Lib.nDigits u) 0) (w.alloc (.cells Lib.zeros24 105)) hH0 (by rw [Array.size_replicate]; exact Lib.lt_pow_nDigits u) hu64 (by rw [Array.size_replicate]; omega)
    rw [Array.size_replicate] at hfmt
    have HH0 := Lib.hid hH0
    clear hH0 hal
    go_enter Tryz.func69, Tryz.ntmps69
    go_wp2_with (first
      | (go_at_fn 84; refine (Tryz.internal_strconv_numDigits u hu1 hu64 _ (Lib.tabIs_alloc htab _)).mono ?_; rintro e w' ⟨rfl, rfl⟩))
    go_at_fn 85
    refine hfmt.mono ?_
    rintro e w' ⟨rfl, k, v', dk, rfl, hF⟩
    have hcv : (convert 41 9 (.slice (some ⟨w.heap.size, 0, none⟩) (Lib.nDigits u) 24)).run Tryz.prog ((putRow (fun (b : UInt8) => Value.int .u8 (b.toNat : Int)) (w.alloc (.cells Lib.zeros24 105)) w.heap.size 0 dk).drewN k) = .ok (.string ⟨(Lib.decDigits u).toArray⟩) ((putRow (fun (b : UInt8) => Value.int .u8 (b.toNat : Int)) (w.alloc (.cells Lib.zeros24 105)) w.heap.size 0 dk).drewN k) := by
      have h := run_convert_bytes_back (P := Tryz.prog) ((putRow (fun (b : UInt8) => Value.int .u8 (b.toNat : Int)) (w.alloc (.cells Lib.zeros24 105)) w.heap.size 0 dk).drewN k) 41 9 5 ⟨w.heap.size, 0, none⟩ 24 (Lib.decDigits u) t41 t5 t9 (fun j hj => by
        rw [Lib.row_is_numeral hF j hj, Lib.add_plain, World.cell?_drewN]
        exact cell?_putRow (fun (b : UInt8) => Value.int .u8 (b.toNat : Int)) _ w.heap.size 0 _ dk HH0.out (by rw [hF.size, Array.size_replicate]) j (by rw [hF.size]; rw [Lib.decDigits_length] at hj; exact hj))
      rw [Lib.decDigits_length] at h
      exact h
    go_wp2
    go_ret
    obtain ⟨os, eo⟩ := fin0 w (.cells Lib.zeros24 105) dk k
    exact ⟨rfl, k, os, eo⟩
set_option maxRecDepth 100000 in
theorem outer (u : Nat) (hu64 : u < 18446744073709551616) (w : World) (htab : Lib.TabIs Tryz.prog w "internal/strconv.uint64pow10" .u64 Lib.pow10Tab) :
    Calls Tryz.prog 51 #[.int .u64 u, .int .i64 10] w fun e w' => e = .returned (.string ⟨(Lib.decDigits u).toArray⟩) ∧ ∃ k os, w' = grow (w.drewN k) os := by
  have mixed : Tryz.prog.follows .mixedOrders = true := by kernel_rfl
  have t3 := Tryz.underlying3; have a3 := Tryz.isAgg3; have z3 := Tryz.sizeOf3; have v3 := Tryz.zeroValue3
  have t9 := Tryz.underlying9; have a9 := Tryz.isAgg9; have z9 := Tryz.sizeOf9; have v9 := Tryz.zeroValue9
  have t80 := Tryz.underlying80; have a80 := Tryz.isAgg80; have z80 := Tryz.sizeOf80; have v80 := Tryz.zeroValue80
  have e69 : ∀ args w, (callFunc 69 args).run Tryz.prog w = .ok (.enter 69 args) w := enters_of Tryz.func69 (by kernel_rfl) rfl
  go_enter Tryz.func51, Tryz.ntmps51
  go_wp2_with (go_at_fn 69; refine (inner u hu64 _ htab).mono ?_; rintro e w' ⟨rfl, k, os, rfl⟩)
  go_ret
  exact ⟨rfl, k, os, rfl⟩
end Go.Proofs.Bfu
namespace Go.KM.P1
open Go Go.KM Go.RowKit Go.Proofs
open Go.KM.Fam (Dn dflt)
open Go.KM.Enc (cells sz mkE glob gany u8)
set_option autoImplicit false
set_option linter.unusedVariables false
set_option maxRecDepth 100000
theorem joinB_lib (s : ByteArray) : ∀ xs : List ByteArray, (joinB xs s).data.toList = Lib.join (xs.map (·.data.toList)) s.data.toList
  | [] => rfl
  | [x] => by simp [joinB, Lib.join_one]
  | x :: y :: r => by
    have ih := joinB_lib s (y :: r)
    show (x ++ s ++ joinB (y :: r) s).data.toList = _
    rw [List.map_cons, Lib.join_cons]
    rw [List.map_cons, Lib.join_cons] at ih
    have e : ∀ a b : ByteArray, (a ++ b).data.toList = a.data.toList ++ b.data.toList := fun a b => by simp
    rw [e, e, ih]
    simp [Lib.joinTail, List.append_assoc]
theorem join_con (xs : List ByteArray) (s : ByteArray) (h1 : xs.length ≤ 140737488355328) (h2 : (joinB xs s).size ≤ 140737488355328) : Con Tryz.prog false 16 [.ol 9 xs, .s s] [] (.s (joinB xs s)) [] := by
  refine con_base fun d g w vals hs ha hw => ?_
  obtain ⟨u, v, rfl, h3, h4⟩ := vals2 hs ha
  obtain rfl := rep_s h4
  have h3 : RepO g w _ 9 xs u := h3
  obtain ⟨vs, ⟨hvl, hrow⟩, _, hc⟩ := h3
  rcases hrow with ⟨rfl, hn⟩ | ⟨b, cap, cur, rfl, _, hb, hn, hcap, hsz, htk⟩
  · obtain rfl : xs = [] := List.eq_nil_of_length_eq_zero hn
    exact (Tryz.strings_Join_none none 0 s w).mono fun e w' ⟨h5, h6⟩ => ⟨_, h5, fun g w' κ => .s _, by subst h6; exact Below.refl _ _⟩
  · have eb : (⟨(Lib.join (xs.map (·.data.toList)) s.data.toList).toArray⟩ : ByteArray) = joinB xs s := by
      rw [← joinB_lib]
    refine (Tryz.strings_Join b 0 cap xs s w (fun j x hx => ?_) (Array.getElem?_eq_some_iff.1 hb).1 h1 hn (by
      rw [← joinB_lib]
      have : (joinB xs s).data.toList.length = (joinB xs s).size := by simp
      omega)).mono fun e w' ⟨h5, h6⟩ => ⟨_, h5, fun g w' κ => by rw [eb]; exact .s _, h6⟩
    have hj : j < xs.length := (List.getElem?_eq_some_iff.1 hx).1
    obtain ⟨z, hz1, hz2⟩ := hc j x hx 0 (.s x) rfl
    obtain rfl : z = .string x := by cases hz2; rfl
    have hj1 : j * sz 9 + 0 = j := by show j * 1 + 0 = j; omega
    rw [hj1] at hz1
    rw [Nat.zero_add, cell_of_row w b j cur _ _ hb]
    have h7 : vs[j]? = some (.string x) := by simpa using hz1
    rw [← htk, List.getElem?_take] at h7
    split at h7
    · simpa using h7
    · cases h7
end Go.KM.P1
