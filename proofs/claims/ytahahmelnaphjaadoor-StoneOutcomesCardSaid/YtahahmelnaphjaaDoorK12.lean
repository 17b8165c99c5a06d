/- A layer for walks, twelfth text: slicing, strings byte by byte and rune by rune, fields of values. No statement of the seat is proved in this text. -/
import Derived.Test.YtahahmelnaphjaaDoorK11
namespace Go.K
open Go Go.RowKit

/-- where a part of a slice lies -/
def subA (a : Option Addr) (k lo m : Nat) : Option Addr := if m = lo then a else a.map fun x => x.add (lo * k)

section
variable {α : Type} {k : Nat} {enc : α → List Value}
theorem elems_sub {a : Option Addr} {l : List α} {w : World} (h : Has w (Elems a k enc l)) (lo n m : Nat) (hm : lo + n ≤ m) (hl : lo + n ≤ l.length) : Has w (Elems (subA a k lo m) k enc ((l.drop lo).take n)) := by
  obtain ⟨B, hB, hA⟩ := h
  refine ⟨B, hB, ?_⟩
  rcases hA with rfl | ⟨b, off, ha, hb, hc⟩
  · left; simp
  · by_cases hml : m = lo
    · left
      have : n = 0 := by omega
      simp [this]
    · right
      subst ha
      refine ⟨b, off + lo * k, by simp [subA, hml, addr_add], hb, fun i x hx => ?_⟩
      rw [List.getElem?_take] at hx
      split at hx
      · rw [List.getElem?_drop] at hx
        have := hc _ x hx
        rwa [Nat.add_mul, ← Nat.add_assoc] at this
      · cases hx
end

section
variable {c : Cx} {ds : List Deferred} {p : Post} {T : List (Nat × Value)} {H : List Res} {ops : Array Oper} {rest : List Oper} {d : Option Nat} {ty : TypeId} {ps : String} {af : Array Edge} {g : Option (Nat × Bool)} {x y z : Operand} {u v : Value}

theorem run_bound {P : Program} {w : World} {kd : IntKind} {i : Int} {y : Nat} {code : BoundsCode} (h0 : 0 ≤ i) (h1 : i ≤ (y : Int)) : (Instr.sliceBound (.int kd i) y code).run P w = .ok i.toNat w := by
  unfold Instr.sliceBound
  rw [run_bind_ok (v := (kd, i)) (w' := w) rfl]
  simp only []
  rw [if_pos ⟨h0, h1⟩]
  rfl

theorem run_size {P : Program} {w : World} {t e : TypeId} {k : Nat} (ht : SE P t e k) : (sizeOf e).run P w = .ok k w := by
  have hi := ht.i
  cases hu : P.info? e with
  | none => rw [hu] at hi; cases hi
  | some j =>
    rw [hu] at hi
    simp only [Option.map_some, Option.some.injEq] at hi
    unfold sizeOf
    rw [run_bind_ok (run_info hu)]
    simp [pure, hi]

theorem run_slice {P : Program} {w : World} {t e : TypeId} {k n cap l h m : Nat} {a : Option Addr} {lo hi mx : Option Value} (ht : SE P t e k) (hb : (Instr.sliceBounds true n cap lo hi mx).run P w = .ok (l, h, m) w) :
    (Instr.sliceAt t (.slice a n cap) lo hi mx).run P w = .ok (.slice (subA a k l m) (h - l) (m - l)) w := by
  have hu := run_underlying' (w := w) ht.u
  unfold Instr.sliceAt
  rw [run_bind_ok hu]
  simp only []
  unfold Instr.slice
  rw [run_bind_ok hu]
  simp only []
  rw [run_bind_ok hb]
  simp only []
  rw [run_bind_ok (run_size ht)]
  rfl

section
variable {t e : TypeId} {k n cap : Nat} {a : Option Addr} {kl kh km : IntKind} {lo hi mx : Int} {xl xh xm : Operand}
/-- s[lo:] -/
theorem y_sliceLo (ht : SE c.P t e k) (hx : evo T x = some (.slice a n cap)) (hl : evo T xl = some (.int kl lo)) (h0 : 0 ≤ lo) (h1 : lo ≤ (n : Int)) :
    Y c ds H T ⟨d, .slice t x (some xl) none none, ty, ps, af, g⟩ (.slice (subA a k lo.toNat cap) (n - lo.toNat) (cap - lo.toNat)) :=
  y_run fun A w ha _ => by
    simp only [execOp, ha.eval hx, Option.map_some, Option.map_none, ha.eval hl]
    refine run_val (run_slice ht ?_)
    unfold Instr.sliceBounds
    rw [run_bind_ok (v := cap) (w' := w) rfl]
    simp only []
    rw [run_bind_ok (v := n) (w' := w) rfl]
    rw [run_bind_ok (run_bound h0 h1)]
    rfl
/-- s[:hi] -/
theorem y_sliceHi (ht : SE c.P t e k) (hx : evo T x = some (.slice a n cap)) (hh : evo T xh = some (.int kh hi)) (h0 : 0 ≤ hi) (h1 : hi ≤ (cap : Int)) :
    Y c ds H T ⟨d, .slice t x none (some xh) none, ty, ps, af, g⟩ (.slice (subA a k 0 cap) (hi.toNat - 0) (cap - 0)) :=
  y_run fun A w ha _ => by
    simp only [execOp, ha.eval hx, Option.map_some, Option.map_none, ha.eval hh]
    refine run_val (run_slice ht ?_)
    unfold Instr.sliceBounds
    rw [run_bind_ok (v := cap) (w' := w) rfl]
    simp only []
    rw [run_bind_ok (run_bound h0 h1)]
    rfl
/-- s[:hi:mx] -/
theorem y_slice3 (ht : SE c.P t e k) (hx : evo T x = some (.slice a n cap)) (hh : evo T xh = some (.int kh hi)) (hm : evo T xm = some (.int km mx)) (h0 : 0 ≤ hi) (h1 : hi ≤ mx) (h2 : mx ≤ (cap : Int)) :
    Y c ds H T ⟨d, .slice t x none (some xh) (some xm), ty, ps, af, g⟩ (.slice (subA a k 0 mx.toNat) (hi.toNat - 0) (mx.toNat - 0)) :=
  y_run fun A w ha _ => by
    simp only [execOp, ha.eval hx, Option.map_some, Option.map_none, ha.eval hh, ha.eval hm]
    refine run_val (run_slice ht ?_)
    unfold Instr.sliceBounds
    rw [run_bind_ok (run_bound (by omega) h2)]
    simp only []
    rw [run_bind_ok (run_bound h0 (by omega))]
    rfl
/-- s[lo:hi] -/
theorem y_slice2 (ht : SE c.P t e k) (hx : evo T x = some (.slice a n cap)) (hl : evo T xl = some (.int kl lo)) (hh : evo T xh = some (.int kh hi)) (h0 : 0 ≤ lo) (h1 : lo ≤ hi) (h2 : hi ≤ (cap : Int)) :
    Y c ds H T ⟨d, .slice t x (some xl) (some xh) none, ty, ps, af, g⟩ (.slice (subA a k lo.toNat cap) (hi.toNat - lo.toNat) (cap - lo.toNat)) :=
  y_run fun A w ha _ => by
    simp only [execOp, ha.eval hx, Option.map_some, Option.map_none, ha.eval hh, ha.eval hl]
    refine run_val (run_slice ht ?_)
    unfold Instr.sliceBounds
    rw [run_bind_ok (v := cap) (w' := w) rfl]
    simp only []
    rw [run_bind_ok (run_bound (by omega) h2)]
    rw [run_bind_ok (run_bound h0 (by omega))]
    rfl
/-- s[lo:hi:mx] -/
theorem y_slice4 (ht : SE c.P t e k) (hx : evo T x = some (.slice a n cap)) (hl : evo T xl = some (.int kl lo)) (hh : evo T xh = some (.int kh hi)) (hm : evo T xm = some (.int km mx)) (h0 : 0 ≤ lo) (h1 : lo ≤ hi) (h2 : hi ≤ mx) (h3 : mx ≤ (cap : Int)) :
    Y c ds H T ⟨d, .slice t x (some xl) (some xh) (some xm), ty, ps, af, g⟩ (.slice (subA a k lo.toNat mx.toNat) (hi.toNat - lo.toNat) (mx.toNat - lo.toNat)) :=
  y_run fun A w ha _ => by
    simp only [execOp, ha.eval hx, Option.map_some, ha.eval hh, ha.eval hl, ha.eval hm]
    refine run_val (run_slice ht ?_)
    unfold Instr.sliceBounds
    rw [run_bind_ok (run_bound (by omega) h3)]
    simp only []
    rw [run_bind_ok (run_bound (by omega) (by omega))]
    rw [run_bind_ok (run_bound h0 (by omega))]
    rfl
end

/-! strings -/
theorem y_strIndex {t : TypeId} {s : ByteArray} {kd : IntKind} {i : Int} (ht : c.P.underlying t = some .string) (hx : evo T x = some (.string s)) (hy : evo T y = some (.int kd i)) (h0 : 0 ≤ i) (h1 : i < (s.size : Int)) :
    Y c ds H T ⟨d, .index t x y, ty, ps, af, g⟩ (.int .u8 ((s[i.toNat]?.getD 0).toNat : Int)) :=
  y_run fun A w ha _ => by
    simp only [execOp, ha.eval hx, ha.eval hy]
    refine run_val ?_
    unfold Instr.index
    rw [run_bind_ok (v := (kd, i)) (w' := w) rfl]
    simp only []
    rw [run_bind_ok (run_underlying' ht)]
    simp only []
    have hlt : i.toNat < s.size := by omega
    rw [if_pos h0, getElem?_pos s i.toNat hlt]
    rfl

/-- a walk over the runes of a string -/
def Iter (b : Nat) (s : ByteArray) (pos : Nat) : Res where
  A B w := (∀ k, B k ↔ k = b) ∧ w.heap[b]? = some (.stringIter s pos)
  loc _ _ _ h hA := ⟨hA.1, (h b ((hA.1 b).2 rfl)).trans hA.2⟩

theorem yx_rangeStr {t : TypeId} {s : ByteArray} (ht : c.P.underlying t = some .string) (hx : evo T x = some (.string s)) : YX c ds H T ⟨d, .range t x, ty, ps, af, g⟩ (fun b => .pointer (some ⟨b, 0, none⟩)) (fun b => Iter b s 0) := by
  refine ⟨fun a w ha hw => ?_⟩
  unfold Yld
  have : (execOp a.eval ⟨d, .range t x, ty, ps, af, g⟩).run c.P w = .ok (.value (.pointer (some ⟨w.heap.size, 0, none⟩))) (w.alloc (.stringIter s 0)) := by
    simp only [execOp, ha.eval hx]
    refine run_val ?_
    unfold Instr.range
    rw [run_bind_ok (run_underlying' ht)]
    simp only []
    rw [run_bind_ok (v := .stringIter s 0) (w' := w) rfl, run_bind_ok (v := w.heap.size) (w' := w.alloc (.stringIter s 0)) rfl]
    rfl
  rw [this]
  exact ⟨w.heap.size, rfl, ext_alloc _, (· = w.heap.size), fun k hk => by subst hk; simp, fun k => Iff.rfl, World.alloc_heap_new w _⟩

theorem gk_nextStr {dn b : Nat} {s : ByteArray} {pos : Nat} (i : Nat) (hn : Nat.blt dn c.n = true) (hx : evo T x = some (.pointer (some ⟨b, 0, none⟩))) (hi : H[i]? = some (Iter b s pos))
    (k1 : pos < s.size → GK c ds (KL c ops p rest) ((dn, .tuple #[.bool true, .int .i64 (pos : Int), .int .i32 (Utf8.decode s pos).1]) :: T) (H.set i (Iter b s (pos + (Utf8.decode s pos).2))))
    (k0 : ¬ pos < s.size → GK c ds (KL c ops p rest) ((dn, .tuple #[.bool false]) :: T) (H.set i (Iter b s pos))) :
    GK c ds (KL c ops p (⟨some dn, .next x true, ty, ps, af, none⟩ :: rest)) T H := by
  by_cases hp : pos < s.size
  · refine gk_gen (X := Unit) (fun _ => .tuple #[.bool true, .int .i64 (pos : Int), .int .i32 (Utf8.decode s pos).1]) (fun _ => H.set i (Iter b s (pos + (Utf8.decode s pos).2))) rfl rfl hn ?_ (fun _ => k1 hp)
    intro A w ha hw
    obtain ⟨B, hF⟩ := hw.foc hi
    have hb := hF.A.2
    have : (execOp A.eval ⟨some dn, .next x true, ty, ps, af, none⟩).run c.P w = .ok (.value (.tuple #[.bool true, .int .i64 (pos : Int), .int .i32 (Utf8.decode s pos).1])) (w.putObj b (.stringIter s (pos + (Utf8.decode s pos).2))) := by
      simp only [execOp, ha.eval hx]
      refine run_val ?_
      unfold Instr.next
      simp only []
      rw [run_bind_ok (v := .stringIter s pos) (w' := w) (by simp [getObj, Sem.run, hb])]
      simp only [if_pos hp]
      rw [run_bind_ok (v := ()) (w' := w.putObj b (.stringIter s (pos + (Utf8.decode s pos).2))) (by simp [setObj, Sem.run, hb, World.putObj])]
      rfl
    unfold Yld
    rw [this]
    exact ⟨(), rfl, hF.upd hi (mod_put ((hF.A.1 b).2 rfl)) (fun j hj => .inl hj) ⟨hF.A.1, World.putObj_heap_same (Array.getElem?_eq_some_iff.1 hb).1⟩⟩
  · refine gk_gen (X := Unit) (fun _ => .tuple #[.bool false]) (fun _ => H.set i (Iter b s pos)) rfl rfl hn ?_ (fun _ => k0 hp)
    intro A w ha hw
    obtain ⟨B, hF⟩ := hw.foc hi
    have hb := hF.A.2
    have : (execOp A.eval ⟨some dn, .next x true, ty, ps, af, none⟩).run c.P w = .ok (.value (.tuple #[.bool false])) w := by
      simp only [execOp, ha.eval hx]
      refine run_val ?_
      unfold Instr.next
      simp only []
      rw [run_bind_ok (v := .stringIter s pos) (w' := w) (by simp [getObj, Sem.run, hb])]
      simp only [if_neg hp]
      rfl
    unfold Yld
    rw [this]
    exact ⟨(), rfl, hF.upd hi Mod.rfl (fun j hj => .inl hj) hF.A⟩

theorem y_capS {x : Operand} {t e : TypeId} {a0 : Option Addr} {n k : Nat} (ht : c.P.underlying t = some (.slice e)) (hx : evo T x = some (.slice a0 n k)) :
    Y c ds H T ⟨d, .call ⟨.builtin .cap, #[x], #[t]⟩, ty, ps, af, g⟩ (.int .i64 (k : Int)) :=
  y_run fun a w hs _ => by
    rw [run_builtin (as := [x]) (vs := [.slice a0 n k]) (by simp [evs, hx]) hs w]
    simp only [builtin]
    refine run_val ?_
    unfold Builtin.cap_
    show (underlying t >>= _).run c.P w = _
    rw [run_bind_ok (run_underlying' ht)]
    rfl

/-- a field of a value -/
theorem y_field {t : TypeId} {f : Nat} {vs : List Value} (hx : evo T x = some (.agg vs.toArray)) (hr : ∀ w, (Instr.field t (.agg vs.toArray) f).run c.P w = .ok v w) : Y c ds H T ⟨d, .field t x f, ty, ps, af, g⟩ v :=
  y_run fun a w ha _ => by
    simp only [execOp, ha.eval hx]
    exact run_val (hr w)
end
end Go.K
