/- strings.Builder's copyCheck and String over objects. Conditions: none. -/
import Derived.Test.YtdhkmgloghlnnaaDoorWSg
import Derived.Test.YtdhkmgloghlnnaaDoorKmZb
import Derived.Lib.Strings
import Derived.Lib.Slices
import Derived.Lib.Walk
import Derived.Lib.Builder
import Derived.Lib.AppendStr
import Derived.Lib.UnsafeStr
import Derived.WalkKit
import Derived.Shelf.RegionOpenPlain
import Derived.Laws.Externs
import Derived.Laws.IdiomCopy
import Derived.Laws.BitsLemmas
namespace Go.KM.W1
open Go Go.KM Go.RowKit Go.Proofs
open Go.KM.Fam (Dn dflt)
open Go.KM.Enc (cells sz mkE glob gany u8)
set_option autoImplicit false
set_option linter.unusedVariables false
set_option linter.unusedSimpArgs false
theorem bldSize : (Tryd.prog.info? 139).map (·.size) = some 2 := by kernel_rfl
theorem bldLies : liesAt Tryd.prog Tryd.prog.depth 141 (2 / Tryd.prog.cellsOf 141) 0 139 1 = true := by kernel_rfl
theorem bldCells : Tryd.prog.cellsOf 5 = 1 := by kernel_rfl
set_option maxHeartbeats 1000000 in
set_option maxRecDepth 100000 in
theorem copyCheck_used (b : Nat) (w : World) (h0 : w.cell? ⟨b, 0, none⟩ = some (.pointer (some ⟨b, 0, none⟩))) :
    Calls Tryd.prog 119 #[.pointer (some ⟨b, 0, none⟩)] w fun e w' => e = .returned (.tuple #[]) ∧ w' = w := by
  obtain ⟨j, hj, _⟩ := Option.map_eq_some_iff.1 bldSize
  go_enter Tryd.func119, Tryd.ntmps119
  go_wp2
  rw [Lib.run_neq_ptr_same w _ Tryd.underlying137 hj]
  go_wp2
  go_end0
  exact ⟨rfl, rfl⟩
set_option maxHeartbeats 1000000 in
set_option maxRecDepth 100000 in
theorem copyCheck_fresh (b : Nat) (w : World) (h0 : w.cell? ⟨b, 0, none⟩ = some (.pointer none)) (hsh : w.shape? b = some (141, 2)) (hfz : w.frozen? ⟨b, 0, none⟩ = false) :
    Calls Tryd.prog 119 #[.pointer (some ⟨b, 0, none⟩)] w fun e w' => e = .returned (.tuple #[]) ∧ w' = w.setCell ⟨b, 0, none⟩ (.pointer (some ⟨b, 0, none⟩)) := by
  obtain ⟨j, hj, hjs⟩ := Option.map_eq_some_iff.1 bldSize
  go_enter Tryd.func119, Tryd.ntmps119
  go_wp2
  rw [Lib.run_to_unsafe w ⟨b, 0, none⟩ Tryd.underlying137 Tryd.underlying195 hj (by rw [hjs]; decide) hsh (Nat.zero_lt_succ 1)]
  simp only [Result.andThen]
  rw [Oper.upon_value]
  go_wp2
  rw [run_callFunc_extern Tryd.func150 (by kernel_rfl) (by kernel_rfl) (by kernel_rfl) (e := Extern.AbiNoEscape.same) (by kernel_rfl)]
  rw [Lib.run_noEscape]
  simp only [Result.andThen]
  rw [Oper.upon_value]
  go_wp2
  rw [Lib.run_from_unsafe w ⟨b, 0, none⟩ Tryd.underlying195 Tryd.underlying137 hj hsh bldLies]
  simp only [Result.andThen]
  rw [Oper.upon_value]
  go_wp2
  go_end0
  exact ⟨rfl, rfl⟩
theorem repF_i {g : G} {k : IntKind} {n : Int} {v : Value} (h : RepF g (.i k n) v) : v = .int k n := by cases h; rfl
theorem copyCheck_con (i : Nat) (b : Bool) (c : PV) (M : List (List PV)) (hM : M[i]? = some [.slf 141 i b, c]) : Con Tryd.prog true 119 [.ad (.obj i) 0] M (.tup []) (M.set i [.slf 141 i true, c]) := by
  intro d g w vals hs ha hMR hl hw
  obtain ⟨u, hu, hr⟩ := ha 0 _ rfl
  have hr : RepF g (.ad (.obj i) 0) u := hr
  obtain ⟨h0, h1, C, E, h2, h3, h4⟩ := hMR i _ hM
  cases hr
  have hv : vals = #[.pointer (some ⟨g.oa i, 0, none⟩)] := by
    obtain ⟨l⟩ := vals
    match l, hs, hu with
    | [x], _, hu => simp at hu; rw [hu]
  subst hv
  obtain ⟨u0, h5, h6⟩ := h4 0 _ rfl
  obtain ⟨u1, h7, h8⟩ := h4 1 _ rfl
  have h6 : RepF g (.slf 141 i b) u0 := h6
  have hC : C = #[u0, u1] := by
    obtain ⟨l⟩ := C
    match l, h3, h5, h7 with
    | [x, y], _, h5, h7 => simp at h5 h7; rw [h5, h7]
  subst hC
  cases h6 with
  | slf _ _ _ hT hi =>
  obtain ⟨_, C2, fr2, h9⟩ := hw.oe i h0
  rw [h2] at h9
  simp only [Option.some.injEq, Obj.cells.injEq] at h9
  have hE : E = 141 := h9.2.1.trans hT
  subst hE
  have key : ∀ (w' : World) (q : Value), w'.heap[g.oa i]? = some (.cells #[q, u1] 141 (0, 0)) → (∀ k, k ≠ g.oa i → w'.heap[k]? = w.heap[k]?) → w'.heap.size = w.heap.size → Sl w w' → q = .pointer (some ⟨g.oa i, 0, none⟩) →
      ∃ g', MemRep g' w' (M.set i [.slf 141 i true, c]) ∧ (M.set i [.slf 141 i true, c]).length = g'.no ∧ WF g' w' ∧ Ext d M.length g w g' w' := by
    intro w' q k1 k2 k3 k4 k5
    subst k5
    have hlt : i < M.length := (List.getElem?_eq_some_iff.1 hM).1
    refine ⟨g, fun j cs hj => ?_, by rw [List.length_set]; exact hl rfl, ⟨hw.gl, fun b κ hb => by rw [k3]; exact hw.own b κ hb, fun b D hz => ?_, fun b b' j hb => by rw [k3]; exact hw.ob b b' j hb, fun i hi => by rw [k3]; exact hw.ol i hi, hw.inj, fun j hj => ?_⟩, ⟨.refl g, fun b κ hb ho => ⟨hb, ?_⟩, by rw [k3]; exact Nat.le_refl _, fun j h1 h2 => absurd (Nat.lt_of_le_of_lt h1 h2) (Nat.lt_irrefl _), k4⟩⟩
    · by_cases hij : i = j
      · subst hij
        rw [List.getElem?_set_self hlt] at hj
        have hj := Option.some.inj hj
        subst hj
        refine ⟨h0, h1, _, _, k1, rfl, fun q cc hq => ?_⟩
        match q, hq with
        | 0, hq =>
          simp at hq; subst hq
          exact ⟨_, rfl, RepF.slf _ i true hT h0⟩
        | 1, hq =>
          simp at hq; subst hq
          refine ⟨u1, rfl, h8.keep (X := fun b κ => b = g.oa i) (g' := g) ⟨.refl g, rfl, fun b κ hb hx => ⟨hb, k2 b hx⟩⟩ fun ho b hb hx => ?_⟩
          subst hx; rw [h1] at hb; cases hb
      · rw [List.getElem?_set_ne hij] at hj
        obtain ⟨a1, a2, C', E', a3, a4⟩ := hMR j cs hj
        have hne : g.oa j ≠ g.oa i := fun hh => hij (hw.inj _ _ h0 a1 hh.symm)
        refine ⟨a1, a2, C', E', (k2 _ hne).trans a3, a4.keep (X := fun b κ => b = g.oa i) (g' := g) ⟨.refl g, rfl, fun b κ hb hx => ⟨hb, k2 b hx⟩⟩ fun q cc hq ho b hb hx => ?_⟩
        subst hx; rw [h1] at hb; cases hb
    · obtain ⟨a1, a2⟩ := hw.fz b D hz
      refine ⟨a1, (k2 b fun hh => ?_).trans a2⟩
      subst hh; rw [h1] at a1; cases a1
    · obtain ⟨a1, D, fr, a2⟩ := hw.oe j hj
      by_cases hij : g.oa j = g.oa i
      · rw [hij, hT]; exact ⟨h1, _, _, k1⟩
      · exact ⟨a1, D, fr, (k2 _ hij).trans a2⟩
    · refine k2 b fun hh => ?_
      subst hh
      rw [h1] at hb
      cases hb
      exact ho i hlt rfl
  have c0 : ∀ q : Value, w.heap[g.oa i]? = some (.cells #[q, u1] 141 (0, 0)) → w.cell? ⟨g.oa i, 0, none⟩ = some q := fun q hq => by rw [Lib.cell_of_heap hq]; rfl
  cases b with
  | true =>
    simp only [if_true] at h2
    refine (copyCheck_used (g.oa i) w (c0 _ h2)).mono fun e w' ⟨k1, k2⟩ => ?_
    obtain ⟨g', q1, q2, q3, q4⟩ := key w' _ (by rw [k2]; exact h2) (fun _ _ => by rw [k2]) (by rw [k2]) (by rw [k2]; exact .refl w) rfl
    exact ⟨_, g', k1, ⟨#[], rfl, rfl, fun i p hi => by simp at hi⟩, q1, fun _ => q2, fun hh => by simp at hh, q3, q4⟩
  | false =>
    simp only [Bool.false_eq_true, if_false] at h2
    refine (copyCheck_fresh (g.oa i) w (c0 _ h2) (by simp [World.shape?, h2]) (by simp [World.frozen?, h2])).mono fun e w' ⟨k1, k2⟩ => ?_
    obtain ⟨g', q1, q2, q3, q4⟩ := key w' _ (by rw [k2]; simp [World.setCell, Array.getElem?_modify, h2]) (fun k hk => by rw [k2]; exact Below.heap_setCell _ _ _ _ (fun e => hk (by simp [e]))) (by rw [k2]; simp [World.setCell]) (by rw [k2]; exact ⟨rfl, rfl, rfl⟩) rfl
    exact ⟨_, g', k1, ⟨#[], rfl, rfl, fun i p hi => by simp at hi⟩, q1, fun _ => q2, fun hh => by simp at hh, q3, q4⟩
theorem loadBytes_int (w : World) : ∀ (l : List Int) (a : Addr) (acc : ByteArray), (∀ j x, l[j]? = some x → w.cell? (a.add j) = some (.int .u8 x)) →
    (loadBytes a acc l.length).run Tryd.prog w = .ok ⟨acc.data ++ (l.map fun n => UInt8.ofNat n.toNat).toArray⟩ w
  | [], a, acc, _ => by simp [loadBytes]
  | x :: l, a, acc, h => by
    have h0 : w.cell? a = some (.int .u8 x) := by
      have := h 0 x rfl
      simpa [Addr.add] using this
    have ih := loadBytes_int w l (a.add 1) (acc.push x.toNat.toUInt8) (fun j y hy => by
      have := h (j + 1) y (by simpa using hy)
      have e : (a.add 1).add j = a.add (j + 1) := by
        unfold Addr.add
        by_cases hj : j = 0
        · subst hj; simp
        · simp [hj]; omega
      rw [e]; exact this)
    simp only [List.length_cons, loadBytes, Sem.run_bind, run_load, h0, Result.andThen]
    rw [ih]
    congr 1
    apply ByteArray.ext
    simp [ByteArray.push]
theorem unsafeString_int (w : World) (g cells : Nat) (hsh : w.shape? g = some (5, cells)) (l : List Int) (h0 : l ≠ []) (hn : l.length ≤ cells) (h63 : l.length ≤ 9223372036854775807)
    (hcell : ∀ j x, l[j]? = some x → w.cell? ((⟨g, 0, none⟩ : Addr).add j) = some (.int .u8 x)) :
    (Builtin.unsafeString_ #[170, 3] 9 #[.pointer (some ⟨g, 0, none⟩), .int .i64 l.length]).run Tryd.prog w = .ok (.string (strOfBytes l)) (w.freeze ⟨g, 0, none⟩ l.length) := by
  have hl : l.length ≠ 0 := by simpa using h0
  have hlb := loadBytes_int w l ⟨g, 0, none⟩ .empty hcell
  have hlies := Lib.liesAt_bytes (P := Tryd.prog) bldCells (cells / Tryd.prog.cellsOf 5) l.length (by rw [bldCells]; simpa using hn)
  have h63' : ¬ (9223372036854775807 : Int) < (l.length : Int) := by omega
  have hmax : IntKind.i64.max = 9223372036854775807 := rfl
  have hneg : ¬ (l.length : Int) < 0 := by omega
  change (asInt (.int .i64 (l.length : Int)) >>= _).run Tryd.prog w = _
  simp [asInt, asIntOf, hmax, h63', hneg, hl, variablesAt, hsh, elemOf, run_underlying Tryd.underlying170, hlies, hlb, strOfBytes]
set_option maxHeartbeats 1000000 in
set_option maxRecDepth 100000 in
theorem string_row (b g cap : Nat) (p : Value) (cur : Array Value) (T : TypeId) (l : List Int) (w : World) (hbk : w.heap[b]? = some (.cells #[p, .slice (some ⟨g, 0, none⟩) l.length cap] T (0, 0))) (hg : w.heap[g]? = some (.cells cur 5 (0, 0)))
    (h0 : l ≠ []) (hn : l.length ≤ cap) (hcap : cap ≤ maxLen) (hcs : cur.size = cap) (hcell : ∀ (j : Nat) (x : Int), l[j]? = some x → cur[j]? = some (Value.int .u8 x)) :
    Calls Tryd.prog 85 #[.pointer (some ⟨b, 0, none⟩)] w fun e w' => e = .returned (.string (strOfBytes l)) ∧ w' = w.drew.freeze ⟨g, 0, none⟩ l.length := by
  have hl0 : l.length ≠ 0 := by simpa using h0
  have hg' : w.drew.heap[g]? = some (.cells cur 5 (0, 0)) := hg
  have c1 : w.drew.cell? ⟨b, 1, none⟩ = some (.slice (some ⟨g, 0, none⟩) l.length cap) := by
    have : w.drew.heap[b]? = some (.cells #[p, .slice (some ⟨g, 0, none⟩) l.length cap] T (0, 0)) := hbk
    rw [Lib.cell_of_heap this]; rfl
  have hSD : (Builtin.unsafeSliceData_ #[85] 170 #[.slice (some ⟨g, 0, none⟩) l.length cap]).run Tryd.prog w.drew = .ok (.pointer (some ⟨g, 0, none⟩)) w.drew :=
    Lib.run_unsafeSliceData_row _ _ _ _ _ _ (by omega)
  have hUS : (Builtin.unsafeString_ #[170, 3] 9 #[.pointer (some ⟨g, 0, none⟩), .int .i64 l.length]).run Tryd.prog w.drew = .ok (.string (strOfBytes l)) (w.drew.freeze ⟨g, 0, none⟩ l.length) := by
    refine unsafeString_int w.drew g cur.size (by simp [World.shape?, hg']) l h0 (by omega) (by unfold maxLen at hcap; omega) fun j x hx => ?_
    have := hcell j x hx
    rw [cell_at hg']
    simpa using this
  have mixed : Tryd.prog.follows .mixedOrders = true := by kernel_rfl
  go_enter Tryd.func85, Tryd.ntmps85
  go_wp2
  go_region_o
  all_goals (go_wp2; go_ret; exact ⟨rfl, rfl⟩)
theorem unsafeString_none' (W : World) (q : Option Addr) : (Builtin.unsafeString_ #[170, 3] 9 #[.pointer q, .int .i64 0]).run Tryd.prog W = .ok (.string .empty) W :=
  Lib.run_unsafeString_none W _ _ _ q
structure Mild (gk : Option Nat) (w w' : World) : Prop where
  heap : ∀ k, k < w.heap.size → gk ≠ some k → w'.heap[k]? = w.heap[k]?
  size : w.heap.size ≤ w'.heap.size
  sl : Sl w w'
set_option maxHeartbeats 2000000 in
set_option maxRecDepth 100000 in
theorem string_nil (b : Nat) (p : Value) (T : TypeId) (w : World) (hbk : w.heap[b]? = some (.cells #[p, .slice none 0 0] T (0, 0))) :
    Calls Tryd.prog 85 #[.pointer (some ⟨b, 0, none⟩)] w fun e w' => e = .returned (.string ⟨#[]⟩) ∧ Mild none w w' := by
  have hUS := unsafeString_none'
  have c1 : w.drew.cell? ⟨b, 1, none⟩ = some (.slice none 0 0) := by
    have : w.drew.heap[b]? = some (.cells #[p, .slice none 0 0] T (0, 0)) := hbk
    rw [Lib.cell_of_heap this]; rfl
  have hSD : (Builtin.unsafeSliceData_ #[85] 170 #[.slice none 0 0]).run Tryd.prog w.drew = .ok (.pointer none) w.drew := rfl
  have mixed : Tryd.prog.follows .mixedOrders = true := by kernel_rfl
  go_enter Tryd.func85, Tryd.ntmps85
  go_wp2
  go_region_o
  all_goals (go_wp2; go_ret; exact ⟨rfl, ⟨fun _ _ _ => rfl, Nat.le_refl _, rfl, rfl, rfl⟩⟩)
set_option maxHeartbeats 2000000 in
set_option maxRecDepth 100000 in
theorem string_noroom (b gk : Nat) (p : Value) (cur : Array Value) (T : TypeId) (w : World) (hbk : w.heap[b]? = some (.cells #[p, .slice (some ⟨gk, 0, none⟩) 0 0] T (0, 0))) (hg : w.heap[gk]? = some (.cells cur 5 (0, 0))) :
    Calls Tryd.prog 85 #[.pointer (some ⟨b, 0, none⟩)] w fun e w' => e = .returned (.string ⟨#[]⟩) ∧ Mild none w w' := by
  have hUS := unsafeString_none'
  have hlt : b < w.heap.size := (Array.getElem?_eq_some_iff.1 hbk).1
  have c1 : w.drew.cell? ⟨b, 1, none⟩ = some (.slice (some ⟨gk, 0, none⟩) 0 0) := by
    have : w.drew.heap[b]? = some (.cells #[p, .slice (some ⟨gk, 0, none⟩) 0 0] T (0, 0)) := hbk
    rw [Lib.cell_of_heap this]; rfl
  have hSD : (Builtin.unsafeSliceData_ #[85] 170 #[.slice (some ⟨gk, 0, none⟩) 0 0]).run Tryd.prog w.drew = .ok (.pointer (some ⟨w.drew.heap.size, 0, none⟩)) (w.drew.alloc (.view ⟨gk, 0, none⟩ 5)) :=
    Lib.run_unsafeSliceData_zero w.drew _ _ 5 Tryd.underlying170 ⟨gk, 0, none⟩ 0 (5, cur.size) (by have hg' : w.drew.heap[gk]? = some (.cells cur 5 (0, 0)) := hg; simp [World.shape?, hg'])
  have c2 : (w.drew.alloc (.view ⟨gk, 0, none⟩ 5)).cell? ⟨b, 1, none⟩ = some (.slice (some ⟨gk, 0, none⟩) 0 0) := by
    have : (w.drew.alloc (.view ⟨gk, 0, none⟩ 5)).heap[b]? = _ := (Lib.alloc_old w.drew _ b hlt).trans hbk
    rw [Lib.cell_of_heap this]; rfl
  have c3 : (w.alloc (.view ⟨gk, 0, none⟩ 5)).drew.cell? ⟨b, 1, none⟩ = some (.slice (some ⟨gk, 0, none⟩) 0 0) := c2
  have c0 : w.cell? ⟨b, 1, none⟩ = some (.slice (some ⟨gk, 0, none⟩) 0 0) := c1
  have mixed : Tryd.prog.follows .mixedOrders = true := by kernel_rfl
  go_enter Tryd.func85, Tryd.ntmps85
  go_wp2
  go_region_o
  all_goals (go_wp2; go_ret; exact ⟨rfl, ⟨fun k hk _ => Lib.alloc_old w.drew _ k hk, by show _ ≤ (w.heap.push _).size; simp, rfl, rfl, rfl⟩⟩)
set_option maxHeartbeats 2000000 in
set_option maxRecDepth 100000 in
theorem string_room (b gk cap : Nat) (p : Value) (T : TypeId) (w : World) (hc0 : cap ≠ 0) (hbk : w.heap[b]? = some (.cells #[p, .slice (some ⟨gk, 0, none⟩) 0 cap] T (0, 0))) :
    Calls Tryd.prog 85 #[.pointer (some ⟨b, 0, none⟩)] w fun e w' => e = .returned (.string ⟨#[]⟩) ∧ Mild none w w' := by
  have hUS := unsafeString_none'
  have c1 : w.drew.cell? ⟨b, 1, none⟩ = some (.slice (some ⟨gk, 0, none⟩) 0 cap) := by
    have : w.drew.heap[b]? = some (.cells #[p, .slice (some ⟨gk, 0, none⟩) 0 cap] T (0, 0)) := hbk
    rw [Lib.cell_of_heap this]; rfl
  have hSD : (Builtin.unsafeSliceData_ #[85] 170 #[.slice (some ⟨gk, 0, none⟩) 0 cap]).run Tryd.prog w.drew = .ok (.pointer (some ⟨gk, 0, none⟩)) w.drew :=
    Lib.run_unsafeSliceData_row _ _ _ _ _ _ hc0
  clear hc0
  have mixed : Tryd.prog.follows .mixedOrders = true := by kernel_rfl
  go_enter Tryd.func85, Tryd.ntmps85
  go_wp2
  go_region_o
  all_goals (go_wp2; go_ret; exact ⟨rfl, ⟨fun _ _ _ => rfl, Nat.le_refl _, rfl, rfl, rfl⟩⟩)
theorem freeze_mild (w : World) (gk n : Nat) : Mild (some gk) w (w.drew.freeze ⟨gk, 0, none⟩ n) := by
  unfold World.freeze
  split
  · exact ⟨fun _ _ _ => rfl, Nat.le_refl _, rfl, rfl, rfl⟩
  · refine ⟨fun k hk hne => ?_, by show w.heap.size ≤ (w.heap.modify _ _).size; rw [Array.size_modify]; exact Nat.le_refl _, rfl, rfl, rfl⟩
    simp only [Array.getElem?_modify]
    rw [if_neg (fun hh => hne (congrArg some hh))]
    rfl
theorem string_con (i : Nat) (p : PV) (f : Dn 5 → Int) (hf : u8 5 = some f) (xs : List (Dn 5)) (M : List (List PV)) (hM : M[i]? = some [p, .ol 5 xs]) : Con Tryd.prog true 85 [.ad (.obj i) 0] M (.s (strOfBytes (xs.map f))) (M.set i [p, .gone]) := by
  intro d g w vals hs ha hMR hl hw
  obtain ⟨u, hu, hr⟩ := ha 0 _ rfl
  have hr : RepF g (.ad (.obj i) 0) u := hr
  obtain ⟨h0, h1, C, E, h2, h3, h4⟩ := hMR i _ hM
  cases hr
  have hv : vals = #[.pointer (some ⟨g.oa i, 0, none⟩)] := by
    obtain ⟨l⟩ := vals
    match l, hs, hu with
    | [x], _, hu => simp at hu; rw [hu]
  subst hv
  obtain ⟨u0, h5, h6⟩ := h4 0 _ rfl
  obtain ⟨u1, h7, h8⟩ := h4 1 _ rfl
  have hC : C = #[u0, u1] := by
    obtain ⟨l⟩ := C
    match l, h3, h5, h7 with
    | [x, y], _, h5, h7 => simp at h5 h7; rw [h5, h7]
  subst hC
  have h8 : RepO g w (.ob (g.oa i) 1) 5 xs u1 := h8
  obtain ⟨z1, z2⟩ := encOk.u8 5 f hf
  have hlt : i < M.length := (List.getElem?_eq_some_iff.1 hM).1
  have key : ∀ (gk : Option Nat) (w' : World), Mild gk w w' → (∀ k, gk = some k → g.own k = some (.ob (g.oa i) 1)) →
      ∃ g', MemRep g' w' (M.set i [p, .gone]) ∧ (M.set i [p, .gone]).length = g'.no ∧ WF g' w' ∧ Ext d M.length g w g' w' := by
    intro gk w' hm hk
    have same : ∀ b κ, g.own b = some κ → κ ≠ .ob (g.oa i) 1 → w'.heap[b]? = w.heap[b]? := fun b κ hb hne => hm.heap b (hw.own b κ hb) fun hh => hne (by
      have := hk b hh
      rw [hb] at this
      exact Option.some.inj this)
    have sameF : ∀ b D, g.fz b = some D → w'.heap[b]? = w.heap[b]? := fun b D hz => hm.heap b (Array.getElem?_eq_some_iff.1 (hw.fz b D hz).2).1 fun hh => by
      have := hk b hh
      rw [(hw.fz b D hz).1] at this; cases this
    have hK : Keep (fun b κ => κ = .ob (g.oa i) 1) g w g w' := ⟨.refl g, rfl, fun b κ hb hx => ⟨hb, same b κ hb hx⟩⟩
    refine ⟨g, fun j cs hj => ?_, by rw [List.length_set]; exact hl rfl, ⟨hw.gl, fun b κ hb => Nat.lt_of_lt_of_le (hw.own b κ hb) hm.size, fun b D hz => ⟨(hw.fz b D hz).1, (sameF b D hz).trans (hw.fz b D hz).2⟩, fun b b' j hb => Nat.lt_of_lt_of_le (hw.ob b b' j hb) hm.size, fun i hi => Nat.lt_of_lt_of_le (hw.ol i hi) hm.size, hw.inj, fun j hj => ?_⟩,
      ⟨.refl g, fun b κ hb ho => ⟨hb, same b κ hb fun hh => ?_⟩, hm.size, fun j h1 h2 => absurd (Nat.lt_of_le_of_lt h1 h2) (Nat.lt_irrefl _), hm.sl⟩⟩
    · by_cases hij : i = j
      · subst hij
        rw [List.getElem?_set_self hlt] at hj
        have hj := Option.some.inj hj
        subst hj
        refine ⟨h0, h1, _, _, (same _ _ h1 (fun hh => by cases hh)).trans h2, rfl, fun q cc hq => ?_⟩
        match q, hq with
        | 0, hq =>
          simp at hq; subst hq
          exact ⟨_, rfl, h6.keep hK fun ho b hb hx => by cases hx⟩
        | 1, hq =>
          simp at hq; subst hq
          exact ⟨u1, rfl, trivial⟩
      · rw [List.getElem?_set_ne hij] at hj
        obtain ⟨a1, a2, C', E', a3, a4⟩ := hMR j cs hj
        have hne : g.oa j ≠ g.oa i := fun hh => hij (hw.inj _ _ h0 a1 hh.symm)
        exact ⟨a1, a2, C', E', (same _ _ a2 (fun hh => by cases hh)).trans a3, a4.keep hK fun q cc hq ho b hb hx => by simp only [Key.ob.injEq] at hx; exact hne hx.1⟩
    · obtain ⟨a1, D, fr, a2⟩ := hw.oe j hj
      exact ⟨a1, D, fr, (same _ _ a1 (fun hh => by cases hh)).trans a2⟩
    · subst hh
      exact ho i hlt rfl
  have fin : ∀ {e : Ending} {w' : World} {gk : Option Nat} {s : ByteArray}, e = .returned (.string s) → s = strOfBytes (xs.map f) → Mild gk w w' → (∀ k, gk = some k → g.own k = some (.ob (g.oa i) 1)) →
      ∃ r g', e = .returned r ∧ RepT g' w' (Key.rt d) (.s (strOfBytes (xs.map f))) r ∧ MemRep g' w' (M.set i [p, .gone]) ∧ (true = true → (M.set i [p, .gone]).length = g'.no) ∧ (true = false → g'.no = g.no) ∧ WF g' w' ∧ Ext d M.length g w g' w' := by
    intro e w' gk s k1 k2 k3 k4
    subst k2
    obtain ⟨g', q1, q2, q3, q4⟩ := key gk w' k3 k4
    exact ⟨_, g', k1, RepF.s _, q1, fun _ => q2, fun hh => by simp at hh, q3, q4⟩
  have h8' := h8
  obtain ⟨vs, ⟨hvl, hown⟩, hkey, hcs⟩ := h8
  rcases hown with ⟨rfl, hz⟩ | ⟨gk, cap, cur, rfl, _, hg, hcl, hcm, hsz, htk⟩
  · have : xs = [] := List.eq_nil_of_length_eq_zero hz
    subst this
    exact (string_nil (g.oa i) u0 E w h2).mono fun e w' ⟨k1, k2⟩ => fin k1 rfl k2 (fun k hk => by cases hk)
  · obtain ⟨C, q1, q2, q3, q4, q5, q6⟩ := repO_row h8'
    rw [hg] at q1
    simp only [Option.some.injEq, Obj.cells.injEq] at q1
    obtain ⟨rfl, _⟩ := q1
    rw [z1, Nat.mul_one] at q5
    by_cases hx : xs = []
    · subst hx
      by_cases hc0 : cap = 0
      · subst hc0
        exact (string_noroom (g.oa i) gk u0 cur E w h2 hg).mono fun e w' ⟨k1, k2⟩ => fin k1 rfl k2 (fun k hk => by cases hk)
      · exact (string_room (g.oa i) gk cap u0 E w hc0 h2).mono fun e w' ⟨k1, k2⟩ => fin k1 rfl k2 (fun k hk => by cases hk)
    · have hlen : xs.length = (xs.map f).length := by simp
      rw [hlen] at h2
      refine (string_row (g.oa i) gk cap u0 cur E (xs.map f) w h2 hg (by simpa using hx) (by simpa using q3) hcm q5 fun j x hj => ?_).mono fun e w' ⟨k1, k2⟩ => fin k1 rfl (k2 ▸ freeze_mild w gk _) (fun k hk => by cases hk; exact q4)
      simp only [List.getElem?_map, Option.map_eq_some_iff] at hj
      obtain ⟨y, hy, rfl⟩ := hj
      obtain ⟨v, r1, r2⟩ := q6 j y hy 0 (.i .u8 (f y)) (by rw [z2]; rfl)
      rw [z1, Nat.mul_one, Nat.add_zero] at r1
      rw [r1, repF_i r2]
theorem cc_ok {ps : List PV} {M M' : List (List PV)} {v : PV} (hv : bCopyCheck ps M = some (true, v, M')) : Con Tryd.prog true 119 ps M v M' ∧ v.noLoc = true := by
  unfold bCopyCheck at hv
  split at hv
  case h_2 => cases hv
  rename_i i
  split at hv
  case h_2 => cases hv
  rename_i T j b c hM
  cases hb : (Nat.beq T 141 && Nat.beq j i) with
  | false => rw [hb] at hv; cases hv
  | true =>
    rw [hb] at hv
    simp only [Bool.and_eq_true] at hb
    obtain rfl := Nat.eq_of_beq_eq_true hb.1
    obtain rfl := Nat.eq_of_beq_eq_true hb.2
    simp only [cond_true, Option.some.injEq, Prod.mk.injEq, true_and] at hv
    obtain ⟨rfl, rfl⟩ := hv
    exact ⟨copyCheck_con j b c M hM, rfl⟩
theorem st_ok {ps : List PV} {M M' : List (List PV)} {v : PV} (hv : bString ps M = some (true, v, M')) : Con Tryd.prog true 85 ps M v M' ∧ v.noLoc = true := by
  unfold bString at hv
  split at hv
  case h_2 => cases hv
  rename_i i
  split at hv
  case h_2 => cases hv
  rename_i p T xs hM
  split at hv
  case h_2 => cases hv
  rename_i f hf
  cases hb : Nat.beq T 5 with
  | false => rw [hb] at hv; cases hv
  | true =>
    rw [hb] at hv
    obtain rfl := Nat.eq_of_beq_eq_true hb
    simp only [cond_true, Option.some.injEq, Prod.mk.injEq, true_and] at hv
    obtain ⟨rfl, rfl⟩ := hv
    exact ⟨string_con i p f hf xs M hM, rfl⟩
theorem realB {f : FuncId} {fn : Func} (h : Tryd.prog.funcs[f]? = some fn) (hb : (!(fn.name == "runtime.NumGoroutine") && fn.body.isSome) = true) : Real Tryd.prog f := by
  simp only [Bool.and_eq_true, Bool.not_eq_true'] at hb
  exact ⟨fn, h, hb.1, by simpa [← Option.not_isSome] using hb.2⟩
theorem bb_ok : ∀ f b, lk Y.bb f = some b → ∀ ps M v M', b ps M = some (true, v, M') → Real Tryd.prog f ∧ Con Tryd.prog true f ps M v M' ∧ v.noLoc = true := by
  intro f b h ps M v M' hv
  have h : lk [(119, bCopyCheck), (85, bString)] f = some b := h
  simp only [lk_cons] at h
  split at h
  · rename_i e; subst e
    cases h
    exact ⟨realB Tryd.func119 (by kernel_rfl), cc_ok hv⟩
  · split at h
    · rename_i e; subst e
      cases h
      exact ⟨realB Tryd.func85 (by kernel_rfl), st_ok hv⟩
    · simp [lk] at h
end Go.KM.W1
