/-
  The table of ops, as plain data, and what is told of a code. No project text.
-/
import Derived.Test.YtgmpadhfgohodaaDoorHlS
import Derived.Test.YtgmpadhfgohodaaDoorHlN
namespace Go.Hl
set_option linter.unusedVariables false

structure InfoD where
  Code : Int
  Name : List UInt8
  Form : Int
  Takes : List UInt8
  Gives : List UInt8
  deriving DecidableEq
structure RowD where
  code : Int
  name : List UInt8
  form : Int
  takes : List UInt8
  gives : List UInt8
  deriving DecidableEq
structure SpanD where
  first : Int
  many : Int
  group : Int
  bits : Int
  from_ : Int
  deriving DecidableEq
def encInfo (x : InfoD) : List VP := [intV .i64 x.Code, strV x.Name, intV .i64 x.Form, sliceV 1 encU8 x.Takes, sliceV 1 encU8 x.Gives]
def encRow (x : RowD) : List VP := [intV .i64 x.code, strV x.name, intV .i64 x.form, strV x.takes, strV x.gives]
def encSpan (x : SpanD) : List VP := [intV .i64 x.first, intV .i64 x.many, intV .i64 x.group, intV .i64 x.bits, intV .i64 x.from_]
def encPairI (x : Int × Int) : List VP := [intV .i64 x.1, intV .i64 x.2]
def encStrD (x : List UInt8) : List VP := [strV x]
instance : Enc 5 encInfo := ⟨fun _ => rfl, fun x q h => by simp only [encInfo, List.mem_cons, List.not_mem_nil, or_false] at h; rcases h with h | h | h | h | h <;> rw [h] <;> infer_instance⟩
instance : Enc 5 encRow := ⟨fun _ => rfl, fun x q h => by simp only [encRow, List.mem_cons, List.not_mem_nil, or_false] at h; rcases h with h | h | h | h | h <;> rw [h] <;> infer_instance⟩
instance : Enc 5 encSpan := ⟨fun _ => rfl, fun x q h => by simp only [encSpan, List.mem_cons, List.not_mem_nil, or_false] at h; rcases h with h | h | h | h | h <;> rw [h] <;> infer_instance⟩
instance : Enc 2 encPairI := ⟨fun _ => rfl, fun x q h => by simp only [encPairI, List.mem_cons, List.not_mem_nil, or_false] at h; rcases h with h | h <;> rw [h] <;> infer_instance⟩
instance : Enc 1 encStrD := ⟨fun _ => rfl, fun x q h => by simp only [encStrD, List.mem_cons, List.not_mem_nil, or_false] at h; rw [h]; infer_instance⟩
instance (x : InfoD) : FlatL (encInfo x) := ⟨fun q h => (inferInstance : Enc 5 encInfo).flat x q h⟩
instance (x : RowD) : FlatL (encRow x) := ⟨fun q h => (inferInstance : Enc 5 encRow).flat x q h⟩
instance (x : SpanD) : FlatL (encSpan x) := ⟨fun q h => (inferInstance : Enc 5 encSpan).flat x q h⟩
instance (x : Int × Int) : FlatL (encPairI x) := ⟨fun q h => (inferInstance : Enc 2 encPairI).flat x q h⟩

def rowsT : List RowD := [
  ⟨0, [117, 110, 114, 101, 97, 99, 104, 97, 98, 108, 101], 0, [], []⟩,
  ⟨1, [110, 111, 112], 0, [], []⟩,
  ⟨2, [98, 108, 111, 99, 107], 1, [], []⟩,
  ⟨3, [108, 111, 111, 112], 1, [], []⟩,
  ⟨4, [105, 102], 1, [], []⟩,
  ⟨5, [101, 108, 115, 101], 0, [], []⟩,
  ⟨11, [101, 110, 100], 0, [], []⟩,
  ⟨12, [98, 114], 2, [], []⟩,
  ⟨13, [98, 114, 95, 105, 102], 2, [], []⟩,
  ⟨14, [98, 114, 95, 116, 97, 98, 108, 101], 3, [], []⟩,
  ⟨15, [114, 101, 116, 117, 114, 110], 0, [], []⟩,
  ⟨16, [99, 97, 108, 108], 4, [], []⟩,
  ⟨17, [99, 97, 108, 108, 95, 105, 110, 100, 105, 114, 101, 99, 116], 5, [], []⟩,
  ⟨26, [100, 114, 111, 112], 0, [], []⟩,
  ⟨27, [115, 101, 108, 101, 99, 116], 0, [], []⟩,
  ⟨32, [108, 111, 99, 97, 108, 46, 103, 101, 116], 6, [], []⟩,
  ⟨33, [108, 111, 99, 97, 108, 46, 115, 101, 116], 6, [], []⟩,
  ⟨34, [108, 111, 99, 97, 108, 46, 116, 101, 101], 6, [], []⟩,
  ⟨35, [103, 108, 111, 98, 97, 108, 46, 103, 101, 116], 7, [], []⟩,
  ⟨36, [103, 108, 111, 98, 97, 108, 46, 115, 101, 116], 7, [], []⟩,
  ⟨40, [105, 51, 50, 46, 108, 111, 97, 100], 8, [105], [105]⟩,
  ⟨41, [105, 54, 52, 46, 108, 111, 97, 100], 8, [105], [108]⟩,
  ⟨44, [105, 51, 50, 46, 108, 111, 97, 100, 56, 95, 115], 8, [105], [105]⟩,
  ⟨45, [105, 51, 50, 46, 108, 111, 97, 100, 56, 95, 117], 8, [105], [105]⟩,
  ⟨46, [105, 51, 50, 46, 108, 111, 97, 100, 49, 54, 95, 115], 8, [105], [105]⟩,
  ⟨47, [105, 51, 50, 46, 108, 111, 97, 100, 49, 54, 95, 117], 8, [105], [105]⟩,
  ⟨48, [105, 54, 52, 46, 108, 111, 97, 100, 56, 95, 115], 8, [105], [108]⟩,
  ⟨49, [105, 54, 52, 46, 108, 111, 97, 100, 56, 95, 117], 8, [105], [108]⟩,
  ⟨50, [105, 54, 52, 46, 108, 111, 97, 100, 49, 54, 95, 115], 8, [105], [108]⟩,
  ⟨51, [105, 54, 52, 46, 108, 111, 97, 100, 49, 54, 95, 117], 8, [105], [108]⟩,
  ⟨52, [105, 54, 52, 46, 108, 111, 97, 100, 51, 50, 95, 115], 8, [105], [108]⟩,
  ⟨53, [105, 54, 52, 46, 108, 111, 97, 100, 51, 50, 95, 117], 8, [105], [108]⟩,
  ⟨54, [105, 51, 50, 46, 115, 116, 111, 114, 101], 8, [105, 105], []⟩,
  ⟨55, [105, 54, 52, 46, 115, 116, 111, 114, 101], 8, [105, 108], []⟩,
  ⟨58, [105, 51, 50, 46, 115, 116, 111, 114, 101, 56], 8, [105, 105], []⟩,
  ⟨59, [105, 51, 50, 46, 115, 116, 111, 114, 101, 49, 54], 8, [105, 105], []⟩,
  ⟨60, [105, 54, 52, 46, 115, 116, 111, 114, 101, 56], 8, [105, 108], []⟩,
  ⟨61, [105, 54, 52, 46, 115, 116, 111, 114, 101, 49, 54], 8, [105, 108], []⟩,
  ⟨62, [105, 54, 52, 46, 115, 116, 111, 114, 101, 51, 50], 8, [105, 108], []⟩,
  ⟨63, [109, 101, 109, 111, 114, 121, 46, 115, 105, 122, 101], 9, [], [105]⟩,
  ⟨64, [109, 101, 109, 111, 114, 121, 46, 103, 114, 111, 119], 9, [105], [105]⟩,
  ⟨65, [105, 51, 50, 46, 99, 111, 110, 115, 116], 11, [], [105]⟩,
  ⟨66, [105, 54, 52, 46, 99, 111, 110, 115, 116], 11, [], [108]⟩,
  ⟨167, [105, 51, 50, 46, 119, 114, 97, 112, 95, 105, 54, 52], 0, [108], [105]⟩,
  ⟨172, [105, 54, 52, 46, 101, 120, 116, 101, 110, 100, 95, 105, 51, 50, 95, 115], 0, [105], [108]⟩,
  ⟨173, [105, 54, 52, 46, 101, 120, 116, 101, 110, 100, 95, 105, 51, 50, 95, 117], 0, [105], [108]⟩,
  ⟨192, [105, 51, 50, 46, 101, 120, 116, 101, 110, 100, 56, 95, 115], 0, [105], [105]⟩]
def lateT : List RowD := [
  ⟨193, [105, 51, 50, 46, 101, 120, 116, 101, 110, 100, 49, 54, 95, 115], 0, [105], [105]⟩,
  ⟨194, [105, 54, 52, 46, 101, 120, 116, 101, 110, 100, 56, 95, 115], 0, [108], [108]⟩,
  ⟨195, [105, 54, 52, 46, 101, 120, 116, 101, 110, 100, 49, 54, 95, 115], 0, [108], [108]⟩,
  ⟨196, [105, 54, 52, 46, 101, 120, 116, 101, 110, 100, 51, 50, 95, 115], 0, [108], [108]⟩,
  ⟨64522, [109, 101, 109, 111, 114, 121, 46, 99, 111, 112, 121], 10, [105, 105, 105], []⟩,
  ⟨64523, [109, 101, 109, 111, 114, 121, 46, 102, 105, 108, 108], 9, [105, 105, 105], []⟩]
def spansT : List SpanD := [⟨69, 1, 2, 32, 3⟩, ⟨70, 10, 1, 32, 0⟩, ⟨80, 1, 2, 64, 3⟩, ⟨81, 10, 1, 64, 0⟩, ⟨103, 3, 2, 32, 0⟩, ⟨106, 15, 0, 32, 0⟩, ⟨121, 3, 2, 64, 0⟩, ⟨124, 15, 0, 64, 0⟩]
def binT : List (List UInt8) := [[97, 100, 100], [115, 117, 98], [109, 117, 108], [100, 105, 118, 95, 115], [100, 105, 118, 95, 117], [114, 101, 109, 95, 115], [114, 101, 109, 95, 117], [97, 110, 100], [111, 114], [120, 111, 114], [115, 104, 108], [115, 104, 114, 95, 115], [115, 104, 114, 95, 117], [114, 111, 116, 108], [114, 111, 116, 114]]
def testT : List (List UInt8) := [[101, 113], [110, 101], [108, 116, 95, 115], [108, 116, 95, 117], [103, 116, 95, 115], [103, 116, 95, 117], [108, 101, 95, 115], [108, 101, 95, 117], [103, 101, 95, 115], [103, 101, 95, 117]]
def unT : List (List UInt8) := [[99, 108, 122], [99, 116, 122], [112, 111, 112, 99, 110, 116], [101, 113, 122]]
def namesT : List (List UInt8) := [[117, 110, 114, 101, 97, 99, 104, 97, 98, 108, 101],
  [110, 111, 112],
  [98, 108, 111, 99, 107],
  [108, 111, 111, 112],
  [105, 102],
  [101, 108, 115, 101],
  [],
  [],
  [],
  [],
  [],
  [101, 110, 100],
  [98, 114],
  [98, 114, 95, 105, 102],
  [98, 114, 95, 116, 97, 98, 108, 101],
  [114, 101, 116, 117, 114, 110],
  [99, 97, 108, 108],
  [99, 97, 108, 108, 95, 105, 110, 100, 105, 114, 101, 99, 116],
  [],
  [],
  [],
  [],
  [],
  [],
  [],
  [],
  [100, 114, 111, 112],
  [115, 101, 108, 101, 99, 116],
  [],
  [],
  [],
  [],
  [108, 111, 99, 97, 108, 46, 103, 101, 116],
  [108, 111, 99, 97, 108, 46, 115, 101, 116],
  [108, 111, 99, 97, 108, 46, 116, 101, 101],
  [103, 108, 111, 98, 97, 108, 46, 103, 101, 116],
  [103, 108, 111, 98, 97, 108, 46, 115, 101, 116],
  [],
  [],
  [],
  [105, 51, 50, 46, 108, 111, 97, 100],
  [105, 54, 52, 46, 108, 111, 97, 100],
  [],
  [],
  [105, 51, 50, 46, 108, 111, 97, 100, 56, 95, 115],
  [105, 51, 50, 46, 108, 111, 97, 100, 56, 95, 117],
  [105, 51, 50, 46, 108, 111, 97, 100, 49, 54, 95, 115],
  [105, 51, 50, 46, 108, 111, 97, 100, 49, 54, 95, 117],
  [105, 54, 52, 46, 108, 111, 97, 100, 56, 95, 115],
  [105, 54, 52, 46, 108, 111, 97, 100, 56, 95, 117],
  [105, 54, 52, 46, 108, 111, 97, 100, 49, 54, 95, 115],
  [105, 54, 52, 46, 108, 111, 97, 100, 49, 54, 95, 117],
  [105, 54, 52, 46, 108, 111, 97, 100, 51, 50, 95, 115],
  [105, 54, 52, 46, 108, 111, 97, 100, 51, 50, 95, 117],
  [105, 51, 50, 46, 115, 116, 111, 114, 101],
  [105, 54, 52, 46, 115, 116, 111, 114, 101],
  [],
  [],
  [105, 51, 50, 46, 115, 116, 111, 114, 101, 56],
  [105, 51, 50, 46, 115, 116, 111, 114, 101, 49, 54],
  [105, 54, 52, 46, 115, 116, 111, 114, 101, 56],
  [105, 54, 52, 46, 115, 116, 111, 114, 101, 49, 54],
  [105, 54, 52, 46, 115, 116, 111, 114, 101, 51, 50],
  [109, 101, 109, 111, 114, 121, 46, 115, 105, 122, 101],
  [109, 101, 109, 111, 114, 121, 46, 103, 114, 111, 119],
  [105, 51, 50, 46, 99, 111, 110, 115, 116],
  [105, 54, 52, 46, 99, 111, 110, 115, 116],
  [],
  [],
  [105, 51, 50, 46, 101, 113, 122],
  [105, 51, 50, 46, 101, 113],
  [105, 51, 50, 46, 110, 101],
  [105, 51, 50, 46, 108, 116, 95, 115],
  [105, 51, 50, 46, 108, 116, 95, 117],
  [105, 51, 50, 46, 103, 116, 95, 115],
  [105, 51, 50, 46, 103, 116, 95, 117],
  [105, 51, 50, 46, 108, 101, 95, 115],
  [105, 51, 50, 46, 108, 101, 95, 117],
  [105, 51, 50, 46, 103, 101, 95, 115],
  [105, 51, 50, 46, 103, 101, 95, 117],
  [105, 54, 52, 46, 101, 113, 122],
  [105, 54, 52, 46, 101, 113],
  [105, 54, 52, 46, 110, 101],
  [105, 54, 52, 46, 108, 116, 95, 115],
  [105, 54, 52, 46, 108, 116, 95, 117],
  [105, 54, 52, 46, 103, 116, 95, 115],
  [105, 54, 52, 46, 103, 116, 95, 117],
  [105, 54, 52, 46, 108, 101, 95, 115],
  [105, 54, 52, 46, 108, 101, 95, 117],
  [105, 54, 52, 46, 103, 101, 95, 115],
  [105, 54, 52, 46, 103, 101, 95, 117],
  [],
  [],
  [],
  [],
  [],
  [],
  [],
  [],
  [],
  [],
  [],
  [],
  [105, 51, 50, 46, 99, 108, 122],
  [105, 51, 50, 46, 99, 116, 122],
  [105, 51, 50, 46, 112, 111, 112, 99, 110, 116],
  [105, 51, 50, 46, 97, 100, 100],
  [105, 51, 50, 46, 115, 117, 98],
  [105, 51, 50, 46, 109, 117, 108],
  [105, 51, 50, 46, 100, 105, 118, 95, 115],
  [105, 51, 50, 46, 100, 105, 118, 95, 117],
  [105, 51, 50, 46, 114, 101, 109, 95, 115],
  [105, 51, 50, 46, 114, 101, 109, 95, 117],
  [105, 51, 50, 46, 97, 110, 100],
  [105, 51, 50, 46, 111, 114],
  [105, 51, 50, 46, 120, 111, 114],
  [105, 51, 50, 46, 115, 104, 108],
  [105, 51, 50, 46, 115, 104, 114, 95, 115],
  [105, 51, 50, 46, 115, 104, 114, 95, 117],
  [105, 51, 50, 46, 114, 111, 116, 108],
  [105, 51, 50, 46, 114, 111, 116, 114],
  [105, 54, 52, 46, 99, 108, 122],
  [105, 54, 52, 46, 99, 116, 122],
  [105, 54, 52, 46, 112, 111, 112, 99, 110, 116],
  [105, 54, 52, 46, 97, 100, 100],
  [105, 54, 52, 46, 115, 117, 98],
  [105, 54, 52, 46, 109, 117, 108],
  [105, 54, 52, 46, 100, 105, 118, 95, 115],
  [105, 54, 52, 46, 100, 105, 118, 95, 117],
  [105, 54, 52, 46, 114, 101, 109, 95, 115],
  [105, 54, 52, 46, 114, 101, 109, 95, 117],
  [105, 54, 52, 46, 97, 110, 100],
  [105, 54, 52, 46, 111, 114],
  [105, 54, 52, 46, 120, 111, 114],
  [105, 54, 52, 46, 115, 104, 108],
  [105, 54, 52, 46, 115, 104, 114, 95, 115],
  [105, 54, 52, 46, 115, 104, 114, 95, 117],
  [105, 54, 52, 46, 114, 111, 116, 108],
  [105, 54, 52, 46, 114, 111, 116, 114],
  [],
  [],
  [],
  [],
  [],
  [],
  [],
  [],
  [],
  [],
  [],
  [],
  [],
  [],
  [],
  [],
  [],
  [],
  [],
  [],
  [],
  [],
  [],
  [],
  [],
  [],
  [],
  [],
  [105, 51, 50, 46, 119, 114, 97, 112, 95, 105, 54, 52],
  [],
  [],
  [],
  [],
  [105, 54, 52, 46, 101, 120, 116, 101, 110, 100, 95, 105, 51, 50, 95, 115],
  [105, 54, 52, 46, 101, 120, 116, 101, 110, 100, 95, 105, 51, 50, 95, 117],
  [],
  [],
  [],
  [],
  [],
  [],
  [],
  [],
  [],
  [],
  [],
  [],
  [],
  [],
  [],
  [],
  [],
  [],
  [105, 51, 50, 46, 101, 120, 116, 101, 110, 100, 56, 95, 115],
  [105, 51, 50, 46, 101, 120, 116, 101, 110, 100, 49, 54, 95, 115],
  [105, 54, 52, 46, 101, 120, 116, 101, 110, 100, 56, 95, 115],
  [105, 54, 52, 46, 101, 120, 116, 101, 110, 100, 49, 54, 95, 115],
  [105, 54, 52, 46, 101, 120, 116, 101, 110, 100, 51, 50, 95, 115]]
def foreignT : List (Int × Int) := [(28, 28), (37, 38), (42, 43), (56, 57), (67, 68), (91, 102), (139, 166), (168, 171), (174, 191), (208, 210), (253, 253), (64512, 64519), (64520, 64521), (64524, 64526), (64527, 64529)]

/-! ### searching -/
theorem findE_at {α : Type} {p : α → Bool} : ∀ {l : List α} {k : Nat} {x : α}, l[k]? = some x → p x = true → (∀ j y, j < k → l[j]? = some y → p y = false) → l.find? p = some x
  | [], _, _, h, _, _ => by simp at h
  | y :: l, 0, x, h, hp, _ => by simp at h; subst h; simp [hp]
  | y :: l, k + 1, x, h, hp, hn => by
    rw [List.find?_cons_of_neg (by simpa using hn 0 y (by omega) rfl)]
    exact findE_at (l := l) (k := k) (by simpa using h) hp (fun j z hj hz => hn (j + 1) z (by omega) (by simpa using hz))

/-! ### what is told -/
def typesF (l : List UInt8) : List UInt8 := l.map fun c => if c = 108 then 126 else 127
def Ascii (l : List UInt8) : Prop := ∀ b ∈ l, b < 128
instance (l : List UInt8) : Decidable (Ascii l) := inferInstanceAs (Decidable (∀ b ∈ l, b < 128))
def infoOf (r : RowD) : InfoD := ⟨r.code, r.name, r.form, typesF r.takes, typesF r.gives⟩
def zeroI : InfoD := ⟨0, [], 0, [], []⟩
def zeroR : RowD := ⟨0, [], 0, [], []⟩
def inSpan (code : Int) (s : SpanD) : Bool := decide (s.first ≤ code ∧ code < s.first + s.many)
def numO (code : Int) : Option (Int × Int × Int) := (spansT.find? (inSpan code)).map fun s => (s.group, s.from_ + code - s.first, s.bits)
def kindS (b : Int) : List UInt8 := if b = 64 then [105, 54, 52, 46] else [105, 51, 50, 46]
def oneS (b : Int) : List UInt8 := if b = 64 then [108] else [105]
def numRow (code g n b : Int) : RowD :=
  if g = 0 then ⟨code, kindS b ++ binT.getD n.toNat [], 0, oneS b ++ oneS b, oneS b⟩
  else if g = 1 then ⟨code, kindS b ++ testT.getD n.toNat [], 0, oneS b ++ oneS b, [105]⟩
  else if n = 3 then ⟨code, kindS b ++ unT.getD n.toNat [], 0, oneS b, [105]⟩
  else ⟨code, kindS b ++ unT.getD n.toNat [], 0, oneS b, oneS b⟩
def numberedO (code : Int) : Option RowD := (numO code).map fun p => numRow code p.1 p.2.1 p.2.2
def hasCode (code : Int) (r : RowD) : Bool := decide (r.code = code)
def rowO (code : Int) : Option RowD := match rowsT.find? (hasCode code) with | some r => some r | none => match lateT.find? (hasCode code) with | some r => some r | none => numberedO code
def findI (code : Int) : Option InfoD := (rowO code).map infoOf
def ForeignP (code : Int) : Prop := ∃ r ∈ foreignT, r.1 ≤ code ∧ code ≤ r.2
instance (code : Int) : Decidable (ForeignP code) := inferInstanceAs (Decidable (∃ r ∈ foreignT, r.1 ≤ code ∧ code ≤ r.2))
def widthsT : List (List UInt8) := [[56], [49, 54], [51, 50]]
def restW (name : List UInt8) : List UInt8 := trimSuf (trimSuf (cutB name 46).2.1 [95, 115]) [95, 117]
def widthF (name : List UInt8) : Int := if hasSuf (restW name) [56] then 1 else if hasSuf (restW name) [49, 54] then 2 else if hasSuf (restW name) [51, 50] then 4 else if hasPre name [105, 54, 52] then 8 else 4
def widthO (code : Int) : Option Int := match findI code with | none => none | some x => if x.Form = 8 then some (widthF x.Name) else none

/-! ### the document's -/
def nameR (code : Int) : List UInt8 := if code = 64522 then [109, 101, 109, 111, 114, 121, 46, 99, 111, 112, 121] else if code = 64523 then [109, 101, 109, 111, 114, 121, 46, 102, 105, 108, 108] else if code < 0 ∨ 196 < code then [] else namesT.getD code.toNat []
def formR (c : Int) : Int :=
  if 2 ≤ c ∧ c ≤ 4 then 1 else if c = 12 ∨ c = 13 then 2 else if c = 14 then 3 else if c = 16 then 4 else if c = 17 then 5 else if 32 ≤ c ∧ c ≤ 34 then 6 else if c = 35 ∨ c = 36 then 7 else if 40 ≤ c ∧ c ≤ 62 then 8 else if (c = 63 ∨ c = 64) ∨ c = 64523 then 9 else if c = 64522 then 10 else if c = 65 ∨ c = 66 then 11 else 0
def takesR (c : Int) : List UInt8 × List UInt8 :=
  if c < 40 then ([], []) else if c = 40 ∨ 44 ≤ c ∧ c ≤ 47 then ([127], [127]) else if c = 41 ∨ 48 ≤ c ∧ c ≤ 53 then ([127], [126]) else if (c = 54 ∨ c = 58) ∨ c = 59 then ([127, 127], [])
  else if c ≤ 62 then ([127, 126], []) else if c = 63 ∨ c = 65 then ([], [127]) else if c = 66 then ([], [126]) else if c = 80 ∨ c = 167 then ([126], [127])
  else if (70 ≤ c ∧ c ≤ 79) ∨ 106 ≤ c ∧ c ≤ 120 then ([127, 127], [127]) else if 81 ≤ c ∧ c ≤ 90 then ([126, 126], [127]) else if 124 ≤ c ∧ c ≤ 138 then ([126, 126], [126])
  else if c = 172 ∨ c = 173 then ([127], [126]) else if (121 ≤ c ∧ c ≤ 123) ∨ 194 ≤ c ∧ c ≤ 196 then ([126], [126]) else if 64522 ≤ c then ([127, 127, 127], []) else ([127], [127])
def widthR (c : Int) : Int :=
  if c = 40 ∨ c = 52 ∨ c = 53 ∨ c = 54 ∨ c = 62 then 4 else if c = 41 ∨ c = 55 then 8 else if c = 44 ∨ c = 45 ∨ c = 48 ∨ c = 49 ∨ c = 58 ∨ c = 60 then 1 else if c = 46 ∨ c = 47 ∨ c = 50 ∨ c = 51 ∨ c = 59 ∨ c = 61 then 2 else 0
def foreignR (c : Int) : Prop :=
  (c = 28 ∨ c = 37 ∨ c = 38 ∨ c = 42 ∨ c = 43 ∨ c = 56 ∨ c = 57 ∨ c = 67 ∨ c = 68 ∨ c = 208 ∨ c = 209 ∨ c = 210 ∨ c = 253) ∨ (91 ≤ c ∧ c ≤ 102 ∨ 139 ≤ c ∧ c ≤ 166 ∨ 168 ≤ c ∧ c ≤ 171 ∨ 174 ≤ c ∧ c ≤ 191 ∨ 64512 ≤ c ∧ c ≤ 64521 ∨ 64524 ≤ c ∧ c ≤ 64529)
instance (c : Int) : Decidable (foreignR c) := inferInstanceAs (Decidable (_ ∨ _))
def wordsT : List (List (List UInt8)) := [binT, testT, unT]

/-! ### facts of the tables -/
theorem rows_ascii : ∀ r ∈ rowsT, Ascii r.takes ∧ Ascii r.gives ∧ r.takes.length ≤ 3 ∧ r.gives.length ≤ 3 := by decide
theorem late_ascii : ∀ r ∈ lateT, Ascii r.takes ∧ Ascii r.gives ∧ r.takes.length ≤ 3 ∧ r.gives.length ≤ 3 := by decide
def RowOk (r : RowD) : Prop := Ascii r.takes ∧ Ascii r.gives ∧ r.takes.length ≤ 3 ∧ r.gives.length ≤ 3
theorem oneS_ok (b : Int) : Ascii (oneS b) ∧ (oneS b).length = 1 := by unfold oneS; split <;> exact ⟨by decide, rfl⟩
theorem one_one_ok (b : Int) : Ascii (oneS b ++ oneS b) := by unfold oneS; split <;> decide
theorem numRow_ok (code g n b : Int) : RowOk (numRow code g n b) := by
  have h := oneS_ok b
  have h2 := one_one_ok b
  have h3 : Ascii [105] := by decide
  unfold numRow RowOk
  split
  · exact ⟨h2, h.1, by simp [h.2], by simp [h.2]⟩
  split
  · exact ⟨h2, h3, by simp [h.2], by simp⟩
  split
  · exact ⟨h.1, h3, by simp [h.2], by simp⟩
  · exact ⟨h.1, h.1, by simp [h.2], by simp [h.2]⟩
theorem rowO_ok {code : Int} {r : RowD} (h : rowO code = some r) : RowOk r := by
  unfold rowO at h
  split at h
  · rename_i r' hr; cases h; exact rows_ascii r (List.mem_of_find?_eq_some hr)
  · split at h
    · rename_i r' hr; cases h; exact late_ascii r (List.mem_of_find?_eq_some hr)
    · unfold numberedO at h
      cases hn : numO code with
      | none => rw [hn] at h; cases h
      | some p => rw [hn] at h; cases h; exact numRow_ok _ _ _ _
theorem zeroR_ok : RowOk zeroR := ⟨by decide, by decide, by decide, by decide⟩
theorem rowOk_getD (code : Int) : RowOk ((rowO code).getD zeroR) := by
  cases h : rowO code with
  | none => exact zeroR_ok
  | some r => exact rowO_ok h
theorem spans_num : ∀ s ∈ spansT, 0 ≤ s.from_ ∧ (s.group = 0 ∧ s.from_ + s.many ≤ 15 ∨ s.group = 1 ∧ s.from_ + s.many ≤ 10 ∨ s.group = 2 ∧ s.from_ + s.many ≤ 4) ∧ (s.bits = 32 ∨ s.bits = 64) := by decide
theorem numO_bounds {code g n b : Int} (h : numO code = some (g, n, b)) : 0 ≤ n ∧ (g = 0 ∧ n < 15 ∨ g = 1 ∧ n < 10 ∨ g = 2 ∧ n < 4) ∧ (b = 32 ∨ b = 64) := by
  unfold numO at h
  cases hs : spansT.find? (inSpan code) with
  | none => rw [hs] at h; cases h
  | some s =>
    rw [hs] at h; cases h
    have h1 := spans_num s (List.mem_of_find?_eq_some hs)
    have h2 := List.find?_some hs
    simp only [inSpan, decide_eq_true_eq] at h2
    omega
end Go.Hl
namespace Go.Hl
theorem spans_bd : ∀ s ∈ spansT, 0 ≤ s.first ∧ s.first ≤ 200 ∧ 0 ≤ s.many ∧ s.many ≤ 20 ∧ 0 ≤ s.from_ ∧ s.from_ ≤ 10 := by decide
theorem numO_at {code : Int} {k : Nat} {s : SpanD} (hx : spansT[k]? = some s) (hc : inSpan code s = true) (hn : NotB (fun s => inSpan code s = true) spansT k) : numO code = some (s.group, s.from_ + code - s.first, s.bits) := by
  unfold numO; rw [findE_at hx hc (fun j y hj hy => by simpa using hn j y hj hy)]; rfl
theorem numO_none {code : Int} (hn : NotB (fun s => inSpan code s = true) spansT spansT.length) : numO code = none := by
  unfold numO; rw [List.find?_eq_none.2 (fun x hx => hn.all (Nat.le_refl _) x hx)]; rfl
theorem rowO_1 {code : Int} {k : Nat} {r : RowD} (hx : rowsT[k]? = some r) (hc : r.code = code) (hn : NotB (fun r => r.code = code) rowsT k) : rowO code = some r := by
  unfold rowO; rw [findE_at hx (by simpa [hasCode] using hc) (fun j y hj hy => by simpa [hasCode] using hn j y hj hy)]
theorem rows_none {code : Int} (hn : NotB (fun r : RowD => r.code = code) rowsT rowsT.length) : rowsT.find? (hasCode code) = none :=
  List.find?_eq_none.2 (fun x hx => by have := hn.all (Nat.le_refl _) x hx; simpa [hasCode] using this)
theorem late_none {code : Int} (hn : NotB (fun r : RowD => r.code = code) lateT lateT.length) : lateT.find? (hasCode code) = none :=
  List.find?_eq_none.2 (fun x hx => by have := hn.all (Nat.le_refl _) x hx; simpa [hasCode] using this)
theorem rowO_2 {code : Int} {k : Nat} {r : RowD} (h1 : NotB (fun r : RowD => r.code = code) rowsT rowsT.length) (hx : lateT[k]? = some r) (hc : r.code = code) (hn : NotB (fun r => r.code = code) lateT k) : rowO code = some r := by
  unfold rowO; rw [rows_none h1]; simp only; rw [findE_at hx (by simpa [hasCode] using hc) (fun j y hj hy => by simpa [hasCode] using hn j y hj hy)]
theorem rowO_3 {code : Int} (h1 : NotB (fun r : RowD => r.code = code) rowsT rowsT.length) (h2 : NotB (fun r : RowD => r.code = code) lateT lateT.length) : rowO code = numberedO code := by
  unfold rowO; rw [rows_none h1]; simp only; rw [late_none h2]
theorem numbered_some {code : Int} {p : Int × Int × Int} (h : numO code = some p) : numberedO code = some (numRow code p.1 p.2.1 p.2.2) := by unfold numberedO; rw [h]; rfl
theorem numbered_none {code : Int} (h : numO code = none) : numberedO code = none := by unfold numberedO; rw [h]; rfl
theorem typesF_snoc {l : List UInt8} {k : Nat} {x : UInt8} (h : l[k]? = some x) : typesF (l.take (k + 1)) = typesF (l.take k) ++ [if x = 108 then 126 else 127] := by
  rw [← take_snoc h]; simp [typesF]
theorem typesF_l {l : List UInt8} {k : Nat} {x : UInt8} (h : l[k]? = some x) (hc : (x.toNat : Int) = 108) : typesF (l.take (k + 1)) = typesF (l.take k) ++ [126] := by
  have : x = 108 := UInt8.toNat_inj.1 (by simp; omega)
  rw [typesF_snoc h, if_pos this]
theorem typesF_i {l : List UInt8} {k : Nat} {x : UInt8} (h : l[k]? = some x) (hc : ¬ (x.toNat : Int) = 108) : typesF (l.take (k + 1)) = typesF (l.take k) ++ [127] := by
  have : ¬ x = 108 := fun e => hc (by subst e; rfl)
  rw [typesF_snoc h, if_neg this]
theorem typesF_len (l : List UInt8) : (typesF l).length = l.length := by simp [typesF]
theorem strs_map : ∀ l : List (List UInt8), l.flatMap encStrD = l.map strV
  | [] => rfl
  | x :: l => by rw [List.flatMap_cons, List.map_cons, strs_map l]; rfl
theorem strs_at {l : List (List UInt8)} {j : Nat} (h : j < l.length) : (l.flatMap encStrD)[j]? = some (strV (l.getD j [])) := by
  rw [strs_map, List.getElem?_map, List.getElem?_eq_getElem h, List.getD_eq_getElem?_getD, List.getElem?_eq_getElem h]; rfl
theorem kind_len (b : Int) : (kindS b).length = 4 := by unfold kindS; split <;> rfl
theorem binT_len : ∀ s ∈ binT, s.length ≤ 10 := by decide
theorem testT_len : ∀ s ∈ testT, s.length ≤ 10 := by decide
theorem unT_len : ∀ s ∈ unT, s.length ≤ 10 := by decide
theorem getD_len {l : List (List UInt8)} (h : ∀ s ∈ l, s.length ≤ 10) (j : Nat) : (l.getD j []).length ≤ 10 := by
  rw [List.getD_eq_getElem?_getD]
  cases hj : l[j]? with
  | none => simp
  | some s => exact h s (List.mem_of_getElem? hj)
theorem foreign_at {code : Int} {k : Nat} {r : Int × Int} (hx : foreignT[k]? = some r) (hc : r.1 ≤ code ∧ code ≤ r.2) : True ↔ ForeignP code := ⟨fun _ => ⟨r, List.mem_of_getElem? hx, hc⟩, fun _ => trivial⟩
theorem foreign_no {code : Int} (hn : NotB (fun r : Int × Int => r.1 ≤ code ∧ code ≤ r.2) foreignT foreignT.length) : False ↔ ForeignP code := ⟨fun h => h.elim, fun ⟨r, hr, hc⟩ => hn.all (Nat.le_refl _) r hr hc⟩
theorem hasSuf_iff {l s : List UInt8} {p : Prop} (h : s.length ≤ l.length → (p ↔ l.drop (l.length - s.length) = s)) : (s.length ≤ l.length ∧ p) ↔ hasSuf l s := ⟨fun ⟨a, b⟩ => ⟨a, (h a).1 b⟩, fun ⟨a, b⟩ => ⟨a, (h a).2 b⟩⟩
end Go.Hl
namespace Go.Hl
theorem name_ok {code : Int} {x : InfoD} (h : findI code = some x) : x.Name ≠ [46] ∧ x.Name.length ≤ 20 := by
  unfold findI at h
  cases hr : rowO code with
  | none => rw [hr] at h; cases h
  | some r =>
    rw [hr] at h; cases h
    show r.name ≠ [46] ∧ r.name.length ≤ 20
    have h1 : ∀ r ∈ rowsT, r.name ≠ [46] ∧ r.name.length ≤ 20 := by decide
    have h2 : ∀ r ∈ lateT, r.name ≠ [46] ∧ r.name.length ≤ 20 := by decide
    unfold rowO at hr
    split at hr
    · rename_i r' hf; cases hr; exact h1 _ (List.mem_of_find?_eq_some hf)
    · split at hr
      · rename_i r' hf; cases hr; exact h2 _ (List.mem_of_find?_eq_some hf)
      · unfold numberedO at hr
        cases hn : numO code with
        | none => rw [hn] at hr; cases hr
        | some p =>
          rw [hn] at hr; cases hr
          have hk := kind_len p.2.2
          have key : ∀ (T : List (List UInt8)), (∀ s ∈ T, s.length ≤ 10) → kindS p.2.2 ++ T.getD p.2.1.toNat [] ≠ [46] ∧ (kindS p.2.2 ++ T.getD p.2.1.toNat []).length ≤ 20 := fun T hT => by
            have hl := getD_len hT p.2.1.toNat
            refine ⟨fun e => ?_, by rw [List.length_append]; omega⟩
            have := congrArg List.length e
            rw [List.length_append] at this
            simp at this; omega
          unfold numRow
          dsimp only
          split
          · exact key _ binT_len
          split
          · exact key _ testT_len
          split
          · exact key _ unT_len
          · exact key _ unT_len
theorem width_none1 {code : Int} (h : findI code = none) : widthO code = none := by unfold widthO; rw [h]
theorem width_none2 {code : Int} {x : InfoD} (h : findI code = some x) (hf : x.Form ≠ 8) : widthO code = none := by unfold widthO; rw [h]; simp [hf]
theorem width_some {code : Int} {x : InfoD} (h : findI code = some x) (hf : x.Form = 8) : widthO code = some (widthF x.Name) := by unfold widthO; rw [h]; simp [hf]
theorem widthF_at {name s : List UInt8} {k : Nat} (hs : widthsT[k]? = some s) (hc : hasSuf (restW name) s) (hn : NotB (fun s => hasSuf (restW name) s) widthsT k) : widthF name = 2 ^ k := by
  unfold widthF
  match k, hs with
  | 0, hs => cases hs; rw [if_pos hc]; rfl
  | 1, hs => cases hs; rw [if_neg (hn 0 _ (by omega) rfl), if_pos hc]; rfl
  | 2, hs => cases hs; rw [if_neg (hn 0 _ (by omega) rfl), if_neg (hn 1 _ (by omega) rfl), if_pos hc]; rfl
theorem widthF_no {name : List UInt8} (hn : NotB (fun s => hasSuf (restW name) s) widthsT widthsT.length) : widthF name = if hasPre name [105, 54, 52] then 8 else 4 := by
  unfold widthF
  rw [if_neg (hn 0 _ (by decide) rfl), if_neg (hn 1 _ (by decide) rfl), if_neg (hn 2 _ (by decide) rfl)]
theorem same_len {a b : List UInt8} (h : (a.length : Int) ≠ (b.length : Int)) : False ↔ a = b := ⟨fun h => h.elim, fun e => h (by rw [e])⟩
theorem same_at {a b : List UInt8} {k : Nat} {x y : UInt8} (hx : a[k]? = some x) (hy : b[k]? = some y) (h : (x.toNat : Int) ≠ (y.toNat : Int)) : False ↔ a = b := ⟨fun h => h.elim, fun e => by subst e; rw [hx] at hy; cases hy; exact h rfl⟩
theorem same_end {a b : List UInt8} {k : Nat} (hl : (a.length : Int) = (b.length : Int)) (hk : a.length ≤ k) (h : ∀ j, j < k → a[j]? = b[j]?) : True ↔ a = b := ⟨fun _ => List.ext_getElem? fun j => by
  by_cases hj : j < k
  · exact h j hj
  · rw [List.getElem?_eq_none (by omega), List.getElem?_eq_none (by omega)], fun _ => trivial⟩
theorem same_step {a b : List UInt8} {k : Nat} {x y : UInt8} (h : ∀ j, j < k → a[j]? = b[j]?) (hx : a[k]? = some x) (hy : b[k]? = some y) (hc : ¬ ((x.toNat : Int) ≠ (y.toNat : Int))) : ∀ j, j < k + 1 → a[j]? = b[j]? := fun j hj => by
  rcases Nat.lt_succ_iff_lt_or_eq.1 hj with h' | h'
  · exact h j h'
  · subst h'
    have : x = y := UInt8.toNat_inj.1 (by omega)
    rw [hx, hy, this]
theorem names_len : namesT.length = 197 := by decide +kernel
theorem shl3 : ∀ {k : Nat}, k < 3 → IntKind.i64.wrap (1 * 2 ^ k) = (2 : Int) ^ k
  | 0, _ => rfl
  | 1, _ => rfl
  | 2, _ => rfl
  | k + 3, h => by omega
end Go.Hl
